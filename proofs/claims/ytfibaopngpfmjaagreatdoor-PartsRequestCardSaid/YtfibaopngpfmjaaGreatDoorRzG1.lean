/- The reference's reader: numbers, texts, fields of a kind, qids. Conditions: those that each theorem names. -/
import Derived.Test.YtfibaopngpfmjaaGreatDoorRzC1
import Derived.Test.YtfibaopngpfmjaaGreatDoorRzB4
import Derived.Test.YtfibaopngpfmjaaGreatDoorRzD2
set_option linter.unusedVariables false
set_option linter.unusedSimpArgs false
set_option maxRecDepth 100000
set_option maxHeartbeats 8000000
namespace Go.Proofs.YtfibaopngpfmjaaGreatDoor
open Go.RowKit Go.Proofs
/-- What is left to be read (of at most n bytes) and a number. -/
def InI (n kk : Nat) (w : World) (e : Ending) (w' : World) : Prop := ∃ s b k, e = .returned (.tuple #[.agg #[.string (T s), .bool b], .int .i64 k]) ∧ (s.length ≤ n ∧ 0 ≤ k ∧ (kk ≤ 2 → k ≤ 65535)) ∧ Below w.heap.size w w'
/-- What is left to be read and a text. -/
def InS (n : Nat) (w : World) (e : Ending) (w' : World) : Prop := ∃ s b t, e = .returned (.tuple #[.agg #[.string (T s), .bool b], .string (T t)]) ∧ (s.length ≤ n ∧ t.length ≤ n) ∧ Below w.heap.size w w'
theorem inI {n kk : Nat} {w w' : World} (s : List UInt8) (b : Bool) (k : Int) (h : s.length ≤ n ∧ 0 ≤ k ∧ (kk ≤ 2 → k ≤ 65535)) (hb : Below w.heap.size w w') : InI n kk w (.returned (.tuple #[.agg #[.string (T s), .bool b], .int .i64 k])) w' := ⟨s, b, k, rfl, h, hb⟩
theorem inS {n : Nat} {w w' : World} (s : List UInt8) (b : Bool) (t : List UInt8) (h : s.length ≤ n ∧ t.length ≤ n) (hb : Below w.heap.size w w') : InS n w (.returned (.tuple #[.agg #[.string (T s), .bool b], .string (T t)])) w' := ⟨s, b, t, rfl, h, hb⟩
theorem getE_is {s : List UInt8} {k : Nat} (h : Oct.getE s 0 (k : Int) = 0) : k ≤ s.length ∧ Oct.getT s 0 (k : Int) = (k : Int) := by
 refine ⟨?_, by unfold Oct.getT; rw [h, if_pos rfl]; omega⟩
 unfold Oct.getE at h
 split at h
 ·cases h
 ·split at h
  ·cases h
  ·omega
theorem getN_small (s : List UInt8) (k : Nat) : 0 ≤ Oct.getN s 0 (k : Int) ∧ (k ≤ 2 → Oct.getN s 0 (k : Int) ≤ 65535) := by
 refine ⟨by unfold Oct.getN; split <;> omega, fun hk => ?_⟩
 unfold Oct.getN
 split
 ·have h1 := Oct.leVal_lt (Oct.part s 0 (k : Int))
  have h2 : (Oct.part s 0 (k : Int)).length ≤ 2 := by unfold Oct.part; rw [List.length_take]; omega
  have h3 : 256 ^ (Oct.part s 0 (k : Int)).length ≤ 256 ^ 2 := Nat.pow_le_pow_right (by omega) h2
  omega
 ·omega
theorem in_two {w w1 : World} {a b c d : Value} (h : w1 = (w.alloc (.cells #[a, b] 172)).alloc (.cells #[c, d] 172)) :
  w1.heap[w.heap.size]? = some (.cells #[a, b] 172) ∧ w1.heap[w.heap.size + 1]? = some (.cells #[c, d] 172) ∧ Below w.heap.size w w1 := by
 have h2 := heap_alloc_new (w.alloc (.cells #[a, b] 172)) (.cells #[c, d] 172)
 rw [show (w.alloc (.cells #[a, b] 172)).heap.size = w.heap.size + 1 from by simp] at h2
 subst h
 exact ⟨(Lib.alloc_old _ _ _ (by simp)).trans (heap_alloc_new w _), h2, bnext (alloc_below w _) (alloc_below _ _)⟩
theorem r9num_any (s : List UInt8) (b : Bool) (k : Nat) (hk : 1 ≤ k) (hk2 : k ≤ 8) (w : World) (hs : s.length ≤ 9000000000) : Calls Tryz.prog 120 #[.agg #[.string (T s), .bool b], .int .i64 (k : Int)] w (InI s.length k w) := by
 have HG := lh (fun W => rget_any (T s) 0 (k : Int) W (by rw [T_size]; omega))
 have hl : (T s).data.toList = s := by simp [T]
 unfold GetSays at HG
 rw [hl] at HG
 clear hl
 have HE := lh (fun h => getE_is (s := s) (k := k) h)
 have hnv : 0 ≤ Oct.getN s 0 (k : Int) ∧ (k ≤ 2 → Oct.getN s 0 (k : Int) ≤ 65535) := getN_small s k
 have HNV := lh hnv
 clear hnv
 clear hk hk2
 generalize Oct.getE s 0 (k : Int) = ev at *
 generalize Oct.getT s 0 (k : Int) = tv at *
 generalize Oct.getN s 0 (k : Int) = nv at *
 generalize hkk : (k : Int) = kk at *
 go_enter Tryz.func120, Tryz.ntmps120
 go_upto_region 1 with fail
 generalize hw1 : World.alloc _ _ = w1
 obtain ⟨h1, h2, hb⟩ := in_two hw1.symm
 have HB := lh hb
 have a0 : w1.cell? ⟨w.heap.size, 0, none⟩ = some (.string (T s)) := by rw [Lib.cell_of_heap h1]; rfl
 have a1 : w1.cell? ⟨w.heap.size, 1, none⟩ = some (.bool b) := by rw [Lib.cell_of_heap h1]; rfl
 have b0 : w1.cell? ⟨w.heap.size + 1, 0, none⟩ = some (.string (T [])) := by rw [Lib.cell_of_heap h2]; rfl
 have b1 : w1.cell? ⟨w.heap.size + 1, 1, none⟩ = some (.bool false) := by rw [Lib.cell_of_heap h2]; rfl
 have f0 : w1.frozen? ⟨w.heap.size + 1, 0, none⟩ = false := Lib.frozen_of_heap h2 _
 have f1 : w1.frozen? ⟨w.heap.size + 1, 1, none⟩ = false := Lib.frozen_of_heap h2 _
 have HS := lh (fun x y => (hb.setCell (p := ⟨w.heap.size + 1, 0, none⟩) (Nat.le_succ _) x).setCell (p := ⟨w.heap.size + 1, 1, none⟩) (Nat.le_succ _) y)
 have HQ := lh (fun x y => heap_setCell_same _ (w.heap.size + 1) 1 _ _ y (heap_setCell_same w1 (w.heap.size + 1) 0 _ _ x h2))
 clear h1 h2 hb hw1
 go_wp2_with fail
 (with_reducible refine (HG.out _).mono ?_); rintro e wx ⟨rfl, rfl⟩
 cases b with
 | true =>
  go_wp2_with fail
  have hq := HQ.out (.string (T [])) (.bool true)
  have q0 : ((w1.setCell ⟨w.heap.size + 1, 0, none⟩ (.string (T []))).setCell ⟨w.heap.size + 1, 1, none⟩ (.bool true)).cell? ⟨w.heap.size + 1, 0, none⟩ = some (.string (T [])) := by rw [Lib.cell_of_heap hq]; rfl
  have q1 : ((w1.setCell ⟨w.heap.size + 1, 0, none⟩ (.string (T []))).setCell ⟨w.heap.size + 1, 1, none⟩ (.bool true)).cell? ⟨w.heap.size + 1, 1, none⟩ = some (.bool true) := by rw [Lib.cell_of_heap hq]; rfl
  exact bodyPost_ret (v := .tuple #[.agg #[.string (T []), .bool true], .int .i64 0]) (by simp [results, Tryz.results120, go_sem, q0, q1]) rfl (inI [] true 0 ⟨by simp, by omega, fun _ => by omega⟩ (HS.out _ _))
 | false =>
  by_cases h0 : ev = 0
  rotate_left
  ·have ht : (ev != 0) = true := by simp [h0]
   go_wp2_with fail
   have hq := HQ.out (.string (T [])) (.bool true)
   have q0 : ((w1.setCell ⟨w.heap.size + 1, 0, none⟩ (.string (T []))).setCell ⟨w.heap.size + 1, 1, none⟩ (.bool true)).cell? ⟨w.heap.size + 1, 0, none⟩ = some (.string (T [])) := by rw [Lib.cell_of_heap hq]; rfl
   have q1 : ((w1.setCell ⟨w.heap.size + 1, 0, none⟩ (.string (T []))).setCell ⟨w.heap.size + 1, 1, none⟩ (.bool true)).cell? ⟨w.heap.size + 1, 1, none⟩ = some (.bool true) := by rw [Lib.cell_of_heap hq]; rfl
   exact bodyPost_ret (v := .tuple #[.agg #[.string (T []), .bool true], .int .i64 0]) (by simp [results, Tryz.results120, go_sem, q0, q1]) rfl (inI [] true 0 ⟨by simp, by omega, fun _ => by omega⟩ (HS.out _ _))
  subst h0
  obtain ⟨hle, rfl⟩ := HE.out rfl
  subst hkk
  have hsz : (T s).size = s.length := T_size s
  have hk1 : (k : Int) ≤ s.length := by omega
  go_wp2_with fail
  have hx : (T s).extract k s.length = T (s.drop k) := by
   rw [extract_T, show (T s).data.toList = s from by simp [T], List.take_of_length_le (by simp)]
  rw [hx]
  have hq := HQ.out (.string (T (s.drop k))) (.bool false)
  have q0 : ((w1.setCell ⟨w.heap.size + 1, 0, none⟩ (.string (T (s.drop k)))).setCell ⟨w.heap.size + 1, 1, none⟩ (.bool false)).cell? ⟨w.heap.size + 1, 0, none⟩ = some (.string (T (s.drop k))) := by rw [Lib.cell_of_heap hq]; rfl
  have q1 : ((w1.setCell ⟨w.heap.size + 1, 0, none⟩ (.string (T (s.drop k)))).setCell ⟨w.heap.size + 1, 1, none⟩ (.bool false)).cell? ⟨w.heap.size + 1, 1, none⟩ = some (.bool false) := by rw [Lib.cell_of_heap hq]; rfl
  exact bodyPost_ret (v := .tuple #[.agg #[.string (T (s.drop k)), .bool false], .int .i64 nv]) (by simp [results, Tryz.results120, go_sem, q0, q1]) rfl (inI (s.drop k) false nv ⟨by simp, HNV.out⟩ (HS.out _ _))
theorem gtE_is {s : List UInt8} (h : Oct.gtE s 0 = 0) : ∃ k : Nat, k ≤ s.length ∧ Oct.gtT s 0 = (k : Int) := by
 have h2 := h
 unfold Oct.gtE at h2
 split at h2
 ·rename_i h3; exact absurd h2 h3
 rename_i h3
 have h3 : Oct.getE s 0 2 = 0 := by omega
 obtain ⟨_, h4, h5, h6, _⟩ := getE_zero h3
 split at h2
 ·cases h2
 refine ⟨(Oct.getT s 0 2 + Oct.getN s 0 2).toNat, by omega, ?_⟩
 unfold Oct.gtT
 rw [h, if_pos rfl]
 omega
theorem gtS_le (s : List UInt8) : (Oct.gtS s 0).length ≤ s.length := by
 unfold Oct.gtS
 split
 ·simp; omega
 ·simp
theorem r9counted_any (s : List UInt8) (b : Bool) (w : World) (hs : s.length ≤ 9000000000) : Calls Tryz.prog 184 #[.agg #[.string (T s), .bool b]] w (InS s.length w) := by
 have HG := lh (fun W => rgt_any (T s) 0 W (by rw [T_size]; omega))
 have hl : (T s).data.toList = s := by simp [T]
 unfold GtSays at HG
 rw [hl] at HG
 clear hl
 have HE := lh (fun h => gtE_is (s := s) h)
 have hgl : (Oct.gtS s 0).length ≤ s.length := gtS_le s
 generalize Oct.gtE s 0 = ev at *
 generalize Oct.gtT s 0 = tv at *
 generalize Oct.gtS s 0 = ts at *
 go_enter Tryz.func184, Tryz.ntmps184
 go_upto_region 1 with fail
 generalize hw1 : World.alloc _ _ = w1
 obtain ⟨h1, h2, hb⟩ := in_two hw1.symm
 have HB := lh hb
 have a0 : w1.cell? ⟨w.heap.size, 0, none⟩ = some (.string (T s)) := by rw [Lib.cell_of_heap h1]; rfl
 have a1 : w1.cell? ⟨w.heap.size, 1, none⟩ = some (.bool b) := by rw [Lib.cell_of_heap h1]; rfl
 have b0 : w1.cell? ⟨w.heap.size + 1, 0, none⟩ = some (.string (T [])) := by rw [Lib.cell_of_heap h2]; rfl
 have b1 : w1.cell? ⟨w.heap.size + 1, 1, none⟩ = some (.bool false) := by rw [Lib.cell_of_heap h2]; rfl
 have f0 : w1.frozen? ⟨w.heap.size + 1, 0, none⟩ = false := Lib.frozen_of_heap h2 _
 have f1 : w1.frozen? ⟨w.heap.size + 1, 1, none⟩ = false := Lib.frozen_of_heap h2 _
 have HS := lh (fun x y => (hb.setCell (p := ⟨w.heap.size + 1, 0, none⟩) (Nat.le_succ _) x).setCell (p := ⟨w.heap.size + 1, 1, none⟩) (Nat.le_succ _) y)
 have HQ := lh (fun x y => heap_setCell_same _ (w.heap.size + 1) 1 _ _ y (heap_setCell_same w1 (w.heap.size + 1) 0 _ _ x h2))
 clear h1 h2 hb hw1
 go_wp2_with fail
 (with_reducible refine (HG.out _).mono ?_); rintro e wx ⟨rfl, rfl⟩
 cases b with
 | true =>
  go_wp2_with fail
  have hq := HQ.out (.string (T [])) (.bool true)
  have q0 : ((w1.setCell ⟨w.heap.size + 1, 0, none⟩ (.string (T []))).setCell ⟨w.heap.size + 1, 1, none⟩ (.bool true)).cell? ⟨w.heap.size + 1, 0, none⟩ = some (.string (T [])) := by rw [Lib.cell_of_heap hq]; rfl
  have q1 : ((w1.setCell ⟨w.heap.size + 1, 0, none⟩ (.string (T []))).setCell ⟨w.heap.size + 1, 1, none⟩ (.bool true)).cell? ⟨w.heap.size + 1, 1, none⟩ = some (.bool true) := by rw [Lib.cell_of_heap hq]; rfl
  exact bodyPost_ret (v := .tuple #[.agg #[.string (T []), .bool true], .string (T [])]) (by simp [results, Tryz.results184, go_sem, q0, q1]) rfl (inS [] true [] (by simp) (HS.out _ _))
 | false =>
  by_cases h0 : ev = 0
  rotate_left
  ·have ht : (ev != 0) = true := by simp [h0]
   go_wp2_with fail
   have hq := HQ.out (.string (T [])) (.bool true)
   have q0 : ((w1.setCell ⟨w.heap.size + 1, 0, none⟩ (.string (T []))).setCell ⟨w.heap.size + 1, 1, none⟩ (.bool true)).cell? ⟨w.heap.size + 1, 0, none⟩ = some (.string (T [])) := by rw [Lib.cell_of_heap hq]; rfl
   have q1 : ((w1.setCell ⟨w.heap.size + 1, 0, none⟩ (.string (T []))).setCell ⟨w.heap.size + 1, 1, none⟩ (.bool true)).cell? ⟨w.heap.size + 1, 1, none⟩ = some (.bool true) := by rw [Lib.cell_of_heap hq]; rfl
   exact bodyPost_ret (v := .tuple #[.agg #[.string (T []), .bool true], .string (T [])]) (by simp [results, Tryz.results184, go_sem, q0, q1]) rfl (inS [] true [] (by simp) (HS.out _ _))
  subst h0
  obtain ⟨k, hle, rfl⟩ := HE.out rfl
  have hsz : (T s).size = s.length := T_size s
  have hk1 : (k : Int) ≤ s.length := by omega
  go_wp2_with fail
  have hx : (T s).extract k s.length = T (s.drop k) := by
   rw [extract_T, show (T s).data.toList = s from by simp [T], List.take_of_length_le (by simp)]
  rw [hx]
  have hq := HQ.out (.string (T (s.drop k))) (.bool false)
  have q0 : ((w1.setCell ⟨w.heap.size + 1, 0, none⟩ (.string (T (s.drop k)))).setCell ⟨w.heap.size + 1, 1, none⟩ (.bool false)).cell? ⟨w.heap.size + 1, 0, none⟩ = some (.string (T (s.drop k))) := by rw [Lib.cell_of_heap hq]; rfl
  have q1 : ((w1.setCell ⟨w.heap.size + 1, 0, none⟩ (.string (T (s.drop k)))).setCell ⟨w.heap.size + 1, 1, none⟩ (.bool false)).cell? ⟨w.heap.size + 1, 1, none⟩ = some (.bool false) := by rw [Lib.cell_of_heap hq]; rfl
  exact bodyPost_ret (v := .tuple #[.agg #[.string (T (s.drop k)), .bool false], .string (T ts)]) (by simp [results, Tryz.results184, go_sem, q0, q1]) rfl (inS (s.drop k) false ts ⟨by simp, hgl⟩ (HS.out _ _))
theorem r9raw_any (s : List UInt8) (b : Bool) (k : Nat) (w : World) (hs : s.length ≤ 9000000000) : Calls Tryz.prog 225 #[.agg #[.string (T s), .bool b], .int .i64 (k : Int)] w (InS s.length w) := by
 go_enter Tryz.func225, Tryz.ntmps225
 go_upto_region 1 with fail
 generalize hw1 : World.alloc _ _ = w1
 obtain ⟨h1, h2, hb⟩ := in_two hw1.symm
 have HB := lh hb
 have a0 : w1.cell? ⟨w.heap.size, 0, none⟩ = some (.string (T s)) := by rw [Lib.cell_of_heap h1]; rfl
 have a1 : w1.cell? ⟨w.heap.size, 1, none⟩ = some (.bool b) := by rw [Lib.cell_of_heap h1]; rfl
 have b0 : w1.cell? ⟨w.heap.size + 1, 0, none⟩ = some (.string (T [])) := by rw [Lib.cell_of_heap h2]; rfl
 have b1 : w1.cell? ⟨w.heap.size + 1, 1, none⟩ = some (.bool false) := by rw [Lib.cell_of_heap h2]; rfl
 have f0 : w1.frozen? ⟨w.heap.size + 1, 0, none⟩ = false := Lib.frozen_of_heap h2 _
 have f1 : w1.frozen? ⟨w.heap.size + 1, 1, none⟩ = false := Lib.frozen_of_heap h2 _
 have HS := lh (fun x y => (hb.setCell (p := ⟨w.heap.size + 1, 0, none⟩) (Nat.le_succ _) x).setCell (p := ⟨w.heap.size + 1, 1, none⟩) (Nat.le_succ _) y)
 have HQ := lh (fun x y => heap_setCell_same _ (w.heap.size + 1) 1 _ _ y (heap_setCell_same w1 (w.heap.size + 1) 0 _ _ x h2))
 clear h1 h2 hb hw1
 have hsz : (T s).size = s.length := T_size s
 cases b with
 | true =>
  go_wp2_with fail
  have hq := HQ.out (.string (T [])) (.bool true)
  have q0 : ((w1.setCell ⟨w.heap.size + 1, 0, none⟩ (.string (T []))).setCell ⟨w.heap.size + 1, 1, none⟩ (.bool true)).cell? ⟨w.heap.size + 1, 0, none⟩ = some (.string (T [])) := by rw [Lib.cell_of_heap hq]; rfl
  have q1 : ((w1.setCell ⟨w.heap.size + 1, 0, none⟩ (.string (T []))).setCell ⟨w.heap.size + 1, 1, none⟩ (.bool true)).cell? ⟨w.heap.size + 1, 1, none⟩ = some (.bool true) := by rw [Lib.cell_of_heap hq]; rfl
  exact bodyPost_ret (v := .tuple #[.agg #[.string (T []), .bool true], .string (T [])]) (by simp [results, Tryz.results225, go_sem, q0, q1]) rfl (inS [] true [] (by simp) (HS.out _ _))
 | false =>
  by_cases h0 : s.length < k
  ·have ht : (s.length : Int) < (k : Int) := by omega
   clear h0
   go_wp2_with fail
   have hq := HQ.out (.string (T [])) (.bool true)
   have q0 : ((w1.setCell ⟨w.heap.size + 1, 0, none⟩ (.string (T []))).setCell ⟨w.heap.size + 1, 1, none⟩ (.bool true)).cell? ⟨w.heap.size + 1, 0, none⟩ = some (.string (T [])) := by rw [Lib.cell_of_heap hq]; rfl
   have q1 : ((w1.setCell ⟨w.heap.size + 1, 0, none⟩ (.string (T []))).setCell ⟨w.heap.size + 1, 1, none⟩ (.bool true)).cell? ⟨w.heap.size + 1, 1, none⟩ = some (.bool true) := by rw [Lib.cell_of_heap hq]; rfl
   exact bodyPost_ret (v := .tuple #[.agg #[.string (T []), .bool true], .string (T [])]) (by simp [results, Tryz.results225, go_sem, q0, q1]) rfl (inS [] true [] (by simp) (HS.out _ _))
  have hk1 : (k : Int) ≤ s.length := by omega
  have hd : decide ((s.length : Int) < (k : Int)) = false := decide_eq_false (by omega)
  go_upto_region 3 with fail
  go_region
  go_wp2_with fail
  have hx : (T s).extract k s.length = T (s.drop k) := by
   rw [extract_T, show (T s).data.toList = s from by simp [T], List.take_of_length_le (by simp)]
  have hy : (T s).extract 0 k = T (s.take k) := by
   rw [extract_T, show (T s).data.toList = s from by simp [T]]; rfl
  rw [hx, hy]
  have hq := HQ.out (.string (T (s.drop k))) (.bool false)
  have q0 : ((w1.setCell ⟨w.heap.size + 1, 0, none⟩ (.string (T (s.drop k)))).setCell ⟨w.heap.size + 1, 1, none⟩ (.bool false)).cell? ⟨w.heap.size + 1, 0, none⟩ = some (.string (T (s.drop k))) := by rw [Lib.cell_of_heap hq]; rfl
  have q1 : ((w1.setCell ⟨w.heap.size + 1, 0, none⟩ (.string (T (s.drop k)))).setCell ⟨w.heap.size + 1, 1, none⟩ (.bool false)).cell? ⟨w.heap.size + 1, 1, none⟩ = some (.bool false) := by rw [Lib.cell_of_heap hq]; rfl
  exact bodyPost_ret (v := .tuple #[.agg #[.string (T (s.drop k)), .bool false], .string (T (s.take k))]) (by simp [results, Tryz.results225, go_sem, q0, q1]) rfl (inS (s.drop k) false (s.take k) ⟨by simp, by simp; omega⟩ (bnext (HS.out _ _) (below_drew1 _)))
/-- A slice of numbers in memory. -/
def Nums (w : World) (v : Value) (l : List Int) : Prop :=
 ∃ ao cap, v = .slice ao l.length cap ∧ ∀ j (h : j < l.length), ∃ b off, ao = some ⟨b, off, none⟩ ∧ b < w.heap.size ∧ w.cell? ⟨b, off + j, none⟩ = some (.int .i64 l[j])
theorem Nums.below {w w' : World} {v : Value} {l : List Int} (h : Nums w v l) (hb : Below w.heap.size w w') : Nums w' v l := by
 obtain ⟨ao, cap, hv, hcell⟩ := h
 refine ⟨ao, cap, hv, fun j h => ?_⟩
 obtain ⟨b, off, ha, hlt, c0⟩ := hcell j h
 exact ⟨b, off, ha, Nat.lt_of_lt_of_le hlt hb.size, cell_below hb hlt c0⟩
def FieldsSay (w : World) (e : Ending) (w' : World) : Prop := ∃ v b l, e = .returned (.tuple #[v, .bool b]) ∧ (Nums w' v l ∧ l.length ≤ 4 ∧ l.Nodup ∧ ∀ ad n c, v = .slice (some ad) n c → w.heap.size ≤ ad.block) ∧ Below w.heap.size w w'
theorem fs0 {w : World} (b : Bool) : FieldsSay w (.returned (.tuple #[.slice none 0 0, .bool b])) w :=
 ⟨_, b, [], rfl, ⟨⟨none, 0, rfl, fun j h => absurd h (by simp)⟩, by simp, by simp, fun ad n c e => by cases e⟩, Below.refl _ _⟩
theorem fsl {w : World} (l : List Int) (h : l.length ≤ 4 ∧ l.Nodup) (b : Bool) : FieldsSay w (.returned (.tuple #[.slice (some ⟨w.heap.size, 0, none⟩) l.length l.length, .bool b])) (w.alloc (.cells (l.map (Value.int .i64)).toArray 3)) :=
 ⟨_, b, l, rfl, ⟨⟨_, _, rfl, fun j hj => ⟨w.heap.size, 0, rfl, by simp, by rw [Lib.cell_of_heap (heap_alloc_new w _)]; simp [hj]⟩⟩, h.1, h.2, fun ad n c e => by cases e; exact Nat.le_refl _⟩, alloc_below w _⟩
theorem fs1 {w : World} (a : Int) (b : Bool) (h : [a].Nodup) : FieldsSay w (.returned (.tuple #[.slice (some ⟨w.heap.size, 0, none⟩) 1 1, .bool b])) (w.alloc (.cells #[.int .i64 a] 3)) := fsl [a] ⟨by simp, h⟩ b
theorem fs2 {w : World} (a c : Int) (b : Bool) (h : [a, c].Nodup) : FieldsSay w (.returned (.tuple #[.slice (some ⟨w.heap.size, 0, none⟩) 2 2, .bool b])) (w.alloc (.cells #[.int .i64 a, .int .i64 c] 3)) := fsl [a, c] ⟨by simp, h⟩ b
theorem fs3 {w : World} (a c d : Int) (b : Bool) (h : [a, c, d].Nodup) : FieldsSay w (.returned (.tuple #[.slice (some ⟨w.heap.size, 0, none⟩) 3 3, .bool b])) (w.alloc (.cells #[.int .i64 a, .int .i64 c, .int .i64 d] 3)) := fsl [a, c, d] ⟨by simp, h⟩ b
theorem fs4 {w : World} (a c d f : Int) (b : Bool) (h : [a, c, d, f].Nodup) : FieldsSay w (.returned (.tuple #[.slice (some ⟨w.heap.size, 0, none⟩) 4 4, .bool b])) (w.alloc (.cells #[.int .i64 a, .int .i64 c, .int .i64 d, .int .i64 f] 3)) := fsl [a, c, d, f] ⟨by simp, h⟩ b
theorem r9fields_any (k : Int) (w : World) : Calls Tryz.prog 121 #[.int .i64 k] w (FieldsSay w) := by
 go_enter Tryz.func121, Tryz.ntmps121
 go_wp2_with fail
 all_goals (go_ret2; first | exact fs0 _ | exact fs1 _ _ (by decide) | exact fs2 _ _ _ (by decide) | exact fs3 _ _ _ _ (by decide) | exact fs4 _ _ _ _ _ (by decide))
/-- What is left to be read and a qid. -/
def InQ (n : Nat) (w : World) (e : Ending) (w' : World) : Prop := ∃ s b x y z, e = .returned (.tuple #[.agg #[.string (T s), .bool b], .agg #[.int .i64 x, .int .i64 y, .int .i64 z]]) ∧ s.length ≤ n ∧ Below w.heap.size w w'
theorem inQ {n : Nat} {w w' : World} (s : List UInt8) (b : Bool) (x y z : Int) (h : s.length ≤ n) (hb : Below w.heap.size w w') : InQ n w (.returned (.tuple #[.agg #[.string (T s), .bool b], .agg #[.int .i64 x, .int .i64 y, .int .i64 z]])) w' := ⟨s, b, x, y, z, rfl, h, hb⟩
theorem inq_three {w w1 : World} {a b c d : Value} {cs : Array Value} (h : w1 = ((w.alloc (.cells #[a, b] 172)).alloc (.cells #[c, d] 172)).alloc (.cells cs 44)) :
  w1.heap[w.heap.size]? = some (.cells #[a, b] 172) ∧ w1.heap[w.heap.size + 1]? = some (.cells #[c, d] 172) ∧ w1.heap[w.heap.size + 1 + 1]? = some (.cells cs 44) ∧ Below w.heap.size w w1 := by
 obtain ⟨h1, h2, h3⟩ := in_two (w := w) (a := a) (b := b) (c := c) (d := d) rfl
 have h4 := heap_alloc_new ((w.alloc (.cells #[a, b] 172)).alloc (.cells #[c, d] 172)) (.cells cs 44)
 rw [show ((w.alloc (.cells #[a, b] 172)).alloc (.cells #[c, d] 172)).heap.size = w.heap.size + 1 + 1 from by simp] at h4
 subst h
 exact ⟨(Lib.alloc_old _ _ _ (by simp; omega)).trans h1, (Lib.alloc_old _ _ _ (by simp)).trans h2, h4, bnext h3 (alloc_below _ _)⟩
theorem in_cells {W : World} {g : Nat} {s : List UInt8} {b : Bool} (h : W.heap[g]? = some (.cells #[.string (T s), .bool b] 172)) :
  W.cell? ⟨g, 0, none⟩ = some (.string (T s)) ∧ W.cell? ⟨g, 1, none⟩ = some (.bool b) := ⟨by rw [Lib.cell_of_heap h]; rfl, by rw [Lib.cell_of_heap h]; rfl⟩
theorem r9qid_any (s : List UInt8) (b : Bool) (w : World) (hs : s.length ≤ 9000000000) : Calls Tryz.prog 185 #[.agg #[.string (T s), .bool b]] w (InQ s.length w) := by
 have HN1 := lh (fun W => show Calls Tryz.prog 120 #[.agg #[.string (T s), .bool b], .int .i64 1] W (InI s.length 1 W) from r9num_any s b 1 (by omega) (by omega) W hs)
 have HN4 := lh (fun s b W (h : s.length ≤ 9000000000) => show Calls Tryz.prog 120 #[.agg #[.string (T s), .bool b], .int .i64 4] W (InI s.length 4 W) from r9num_any s b 4 (by omega) (by omega) W h)
 have HN8 := lh (fun s b W (h : s.length ≤ 9000000000) => show Calls Tryz.prog 120 #[.agg #[.string (T s), .bool b], .int .i64 8] W (InI s.length 8 W) from r9num_any s b 8 (by omega) (by omega) W h)
 go_enter Tryz.func185, Tryz.ntmps185
 go_upto_region 1 with fail
 generalize hw1 : World.alloc _ _ = w1
 obtain ⟨h1, h2, h3, hb⟩ := inq_three hw1.symm
 have H2 := lh h2
 have H3 := lh h3
 have HB := lh hb
 obtain ⟨a0, a1⟩ := in_cells h1
 clear h1 h2 h3 hb hw1
 go_wp2_with fail
 (with_reducible refine (HN1.out _).mono ?_); rintro e w2 ⟨s1, b1, k1, rfl, ⟨l1, _⟩, bb⟩
 have H2 := lh ((bb.block _ (row_ltP H2.out)).trans H2.out)
 have H3 := lh ((bb.block _ (row_ltP H3.out)).trans H3.out)
 have HB := lh (bnext HB.out bb)
 clear bb a0 a1
 go_upto_region 2 with fail
 have bb2 := alloc_below w2 (.cells #[.string (T s1), .bool b1] 172)
 have hn2 := heap_alloc_new w2 (.cells #[.string (T s1), .bool b1] 172)
 have H2 := lh ((bb2.block _ (row_ltP H2.out)).trans H2.out)
 have H3 := lh ((bb2.block _ (row_ltP H3.out)).trans H3.out)
 have HB := lh (bnext HB.out bb2)
 obtain ⟨a0, a1⟩ := in_cells hn2
 clear bb2 hn2
 generalize World.alloc w2 _ = v2 at *
 generalize w2.heap.size = g2 at *
 go_wp2_with fail
 (with_reducible refine (HN4.out s1 b1 _ (by omega)).mono ?_); rintro e w3 ⟨s2, b2, k2, rfl, ⟨l2, _⟩, bb⟩
 have H2 := lh ((bb.block _ (row_ltP H2.out)).trans H2.out)
 have H3 := lh ((bb.block _ (row_ltP H3.out)).trans H3.out)
 have HB := lh (bnext HB.out bb)
 clear bb a0 a1
 go_upto_region 3 with fail
 have bb3 := alloc_below w3 (.cells #[.string (T s2), .bool b2] 172)
 have hn3 := heap_alloc_new w3 (.cells #[.string (T s2), .bool b2] 172)
 have H2 := lh ((bb3.block _ (row_ltP H2.out)).trans H2.out)
 have H3 := lh ((bb3.block _ (row_ltP H3.out)).trans H3.out)
 have HB := lh (bnext HB.out bb3)
 obtain ⟨a0, a1⟩ := in_cells hn3
 clear bb3 hn3
 generalize World.alloc w3 _ = v3 at *
 generalize w3.heap.size = g3 at *
 go_wp2_with fail
 (with_reducible refine (HN8.out s2 b2 _ (by omega)).mono ?_); rintro e w4 ⟨s3, b3, k3, rfl, ⟨l3, _⟩, bb⟩
 have H2 := lh ((bb.block _ (row_ltP H2.out)).trans H2.out)
 have H3 := lh ((bb.block _ (row_ltP H3.out)).trans H3.out)
 have HB := lh (bnext HB.out bb)
 clear bb a0 a1
 go_upto_region 4 with fail
 have bb4 := alloc_below w4 (.cells #[.string (T s3), .bool b3] 172)
 have hn4 := heap_alloc_new w4 (.cells #[.string (T s3), .bool b3] 172)
 have H2 := lh ((bb4.block _ (row_ltP H2.out)).trans H2.out)
 have H3 := lh ((bb4.block _ (row_ltP H3.out)).trans H3.out)
 have HB := lh (bnext HB.out bb4)
 obtain ⟨a0, a1⟩ := in_cells hn4
 clear bb4 hn4
 generalize World.alloc w4 _ = v4 at *
 generalize w4.heap.size = g4 at *
 have r0 : v4.cell? ⟨w.heap.size + 1, 0, none⟩ = some (.string (T [])) := (in_cells (s := []) H2.out).1
 have r1 : v4.cell? ⟨w.heap.size + 1, 1, none⟩ = some (.bool false) := (in_cells (s := []) H2.out).2
 have f0 : v4.frozen? ⟨w.heap.size + 1, 0, none⟩ = false := Lib.frozen_of_heap H2.out _
 have f1 : v4.frozen? ⟨w.heap.size + 1, 1, none⟩ = false := Lib.frozen_of_heap H2.out _
 have q0 : v4.cell? ⟨w.heap.size + 1 + 1, 0, none⟩ = some (.int .i64 0) := by rw [Lib.cell_of_heap H3.out]; rfl
 have q1 : v4.cell? ⟨w.heap.size + 1 + 1, 1, none⟩ = some (.int .i64 0) := by rw [Lib.cell_of_heap H3.out]; rfl
 have q2 : v4.cell? ⟨w.heap.size + 1 + 1, 2, none⟩ = some (.int .i64 0) := by rw [Lib.cell_of_heap H3.out]; rfl
 have e0 : v4.frozen? ⟨w.heap.size + 1 + 1, 0, none⟩ = false := Lib.frozen_of_heap H3.out _
 have e1 : v4.frozen? ⟨w.heap.size + 1 + 1, 1, none⟩ = false := Lib.frozen_of_heap H3.out _
 have e2 : v4.frozen? ⟨w.heap.size + 1 + 1, 2, none⟩ = false := Lib.frozen_of_heap H3.out _
 go_wp2_with fail
 have HS := lh ((((((HB.out.setCell (p := ⟨w.heap.size + 1, 0, none⟩) (Nat.le_succ _) (.string (T s3))).setCell (p := ⟨w.heap.size + 1, 1, none⟩) (Nat.le_succ _) (.bool b3)).setCell (p := ⟨w.heap.size + 1 + 1, 0, none⟩) (by show w.heap.size ≤ w.heap.size + 1 + 1; omega) (.int .i64 k1)).setCell (p := ⟨w.heap.size + 1 + 1, 1, none⟩) (by show w.heap.size ≤ w.heap.size + 1 + 1; omega) (.int .i64 k2)).setCell (p := ⟨w.heap.size + 1 + 1, 2, none⟩) (by show w.heap.size ≤ w.heap.size + 1 + 1; omega) (.int .i64 k3)))
 refine bodyPost_ret (v := .tuple #[.agg #[.string (T s3), .bool b3], .agg #[.int .i64 k1, .int .i64 k2, .int .i64 k3]]) ?_ rfl (inQ s3 b3 k1 k2 k3 (by omega) HS.out)
 simp [results, Tryz.results185, go_sem, r0, r1, q0, q1, q2]
theorem first_any (v : Value) (l : List Int) (Q : Prop) (hQ : Q ↔ ∀ j (h : j < l.length), l[j] = 0) (w : World) (hv : Nums w v l) (hl : l.length ≤ 1000000) : Calls Tryz.prog 137 #[v] w (SayI Q w) := by
 obtain ⟨ao, cap, rfl, hcell⟩ := hv
 have HCE := lh hcell
 have HQ := lh hQ
 clear hcell hQ
 go_enter Tryz.func137, Tryz.ntmps137
 go_wp2_with fail
 go_loop [7] (fun i => ∃ k : Nat, k ≤ l.length ∧ i = .int .i64 (k : Int) ∧ Hid (∀ j (h : j < l.length), j < k → l[j] = 0)) (fun i => l.length - (intOf i).toNat)
 case atStart => exact ⟨0, by omega, rfl, (fun j hj h => by omega)⟩
 case round =>
  obtain ⟨k, hk, rfl, hn⟩ := hrel
  by_cases hlt : k < l.length
  ·obtain ⟨b, off, rfl, hbl, cc⟩ := HCE.out k hlt
   have hki : (k : Int) < l.length := by omega
   have HNX := lh (fun (he : l[k] = 0) => show ∀ j (h : j < l.length), j < k + 1 → l[j] = 0 from fun j hj hjk => by
    rcases Nat.lt_or_ge j k with h | h
    ·exact hn.out j hj h
    ·obtain rfl : j = k := by omega
     exact he)
   have HNO := lh (fun (he : ¬ l[k] = 0) => show ¬ Q from fun hq => he (HQ.out.1 hq k hlt))
   clear hn HCE HQ
   generalize l[k] = x at *
   by_cases h0 : x = 0
   ·have HF := lh (HNX.out h0)
    subst h0
    clear HNO HNX
    go_wp2_with fail
    go_round
    case rel => exact ⟨k + 1, by omega, by go_num, HF⟩
    case measure => simp [intOf]; omega
   ·have HF := lh (HNO.out h0)
    have ht : (x != 0) = true := by simp [h0]
    have HX := lh h0
    clear HNO HNX h0
    go_wp2_with fail
    go_ret
    exact sayE _ HX.out HF.out
  ·obtain rfl : k = l.length := by omega
   have HF := lh (HQ.out.2 (fun j h => hn.out j h h))
   clear hn HQ
   go_wp2_with fail
   go_ret
   exact say0 HF.out
theorem nums_alloc (l : List Int) (W : World) (t : TypeId) : Nums (W.alloc (.cells (l.map (Value.int .i64)).toArray t)) (.slice (some ⟨W.heap.size, 0, none⟩) l.length l.length) l :=
 ⟨_, _, rfl, fun j hj => ⟨W.heap.size, 0, rfl, by simp, by rw [Lib.cell_of_heap (heap_alloc_new W _)]; simp [hj]⟩⟩
theorem first2 (a b : Int) (W : World) : Calls Tryz.prog 137 #[.slice (some ⟨W.heap.size, 0, none⟩) 2 2] (W.alloc (.cells #[.int .i64 a, .int .i64 b] 24)) (SayI (a = 0 ∧ b = 0) (W.alloc (.cells #[.int .i64 a, .int .i64 b] 24))) := by
 refine first_any _ [a, b] _ ⟨fun h j hj => ?_, fun h => ⟨h 0 (by simp), h 1 (by simp)⟩⟩ _ (nums_alloc [a, b] W 24) (by simp)
 match j, hj with
 | 0, _ => exact h.1
 | 1, _ => exact h.2
theorem first3 (a b c : Int) (W : World) : Calls Tryz.prog 137 #[.slice (some ⟨W.heap.size, 0, none⟩) 3 3] (W.alloc (.cells #[.int .i64 a, .int .i64 b, .int .i64 c] 24)) (SayI (a = 0 ∧ b = 0 ∧ c = 0) (W.alloc (.cells #[.int .i64 a, .int .i64 b, .int .i64 c] 24))) := by
 refine first_any _ [a, b, c] _ ⟨fun h j hj => ?_, fun h => ⟨h 0 (by simp), h 1 (by simp), h 2 (by simp)⟩⟩ _ (nums_alloc [a, b, c] W 24) (by simp)
 match j, hj with
 | 0, _ => exact h.1
 | 1, _ => exact h.2.1
 | 2, _ => exact h.2.2
theorem first4 (a b c d : Int) (W : World) : Calls Tryz.prog 137 #[.slice (some ⟨W.heap.size, 0, none⟩) 4 4] (W.alloc (.cells #[.int .i64 a, .int .i64 b, .int .i64 c, .int .i64 d] 24)) (SayI (a = 0 ∧ b = 0 ∧ c = 0 ∧ d = 0) (W.alloc (.cells #[.int .i64 a, .int .i64 b, .int .i64 c, .int .i64 d] 24))) := by
 refine first_any _ [a, b, c, d] _ ⟨fun h j hj => ?_, fun h => ⟨h 0 (by simp), h 1 (by simp), h 2 (by simp), h 3 (by simp)⟩⟩ _ (nums_alloc [a, b, c, d] W 24) (by simp)
 match j, hj with
 | 0, _ => exact h.1
 | 1, _ => exact h.2.1
 | 2, _ => exact h.2.2.1
 | 3, _ => exact h.2.2.2
theorem mnames_any (v : Value) (l : List (List UInt8)) (w : World) (hv : Txs w v l) (hl : ∀ s ∈ l, s.length ≤ 1000000000000000000) (hll : l.length ≤ 1000000000000000000) : Calls Tryz.prog 142 #[v] w (SayI (NamesOk l) w) := by
 obtain ⟨ao, cap, rfl, hc, hnn, hcell⟩ := hv
 have HCE := lh hcell
 have HV := lh (fun k (h : k < l.length) W => pvalid_any l[k] W (hl _ (List.getElem_mem h)))
 have HQ := lh (show NamesOk l ↔ l.length ≤ 16 ∧ ∀ j (h : j < l.length), l[j] = [46, 46] ∨ NameOk l[j] from
  ⟨fun h => ⟨h.1, fun j hj => h.2 _ (List.getElem_mem hj)⟩, fun h => ⟨h.1, fun s hs => by obtain ⟨j, hj, rfl⟩ := List.getElem_of_mem hs; exact h.2 j hj⟩⟩)
 generalize NamesOk l = Q at *
 clear hcell hnn hl
 go_enter Tryz.func142, Tryz.ntmps142
 by_cases h16 : l.length ≤ 16
 rotate_left
 ·have k1 : (16 : Int) < l.length := by omega
  have HF := lh (fun hq => h16 (HQ.out.1 hq).1)
  clear h16
  go_wp2_with fail
  go_ret
  exact sayE _ (by omega) HF.out
 have k1 : decide ((16 : Int) < l.length) = false := decide_eq_false (by omega)
 have HQ1 := lh (show Q ↔ ∀ j (h : j < l.length), l[j] = [46, 46] ∨ NameOk l[j] from by rw [HQ.out]; simp [h16])
 clear HQ
 go_wp2_with fail
 go_loop [10] (fun i => ∃ k : Nat, k ≤ l.length ∧ i = .int .i64 (k : Int) ∧ Hid (∀ j (h : j < l.length), j < k → (l[j] = [46, 46] ∨ NameOk l[j]))) (fun i => l.length - (intOf i).toNat)
 case atStart => exact ⟨0, by omega, rfl, (fun j hj h => by omega)⟩
 case round =>
  obtain ⟨k, hk, rfl, hn⟩ := hrel
  by_cases hlt : k < l.length
  ·obtain ⟨b, off, rfl, hbl, cc⟩ := HCE.out k hlt
   have hki : (k : Int) < l.length := by omega
   have HVK := lh (fun W => HV.out k hlt W)
   have HNX := lh (fun (he : l[k] = [46, 46] ∨ NameOk l[k]) => show ∀ j (h : j < l.length), j < k + 1 → (l[j] = [46, 46] ∨ NameOk l[j]) from fun j hj hjk => by
    rcases Nat.lt_or_ge j k with h | h
    ·exact hn.out j hj h
    ·obtain rfl : j = k := by omega
     exact he)
   have HNO := lh (fun (he : ¬ (l[k] = [46, 46] ∨ NameOk l[k])) => show ¬ Q from fun hq => he (HQ1.out.1 hq k hlt))
   clear hn HCE HQ1 HV
   generalize l[k] = nm at *
   by_cases e0 : nm = [46, 46]
   ·have HF := lh (HNX.out (Or.inl e0))
    subst e0
    clear HNO HNX HVK
    go_wp2_with fail
    go_round
    case rel => exact ⟨k + 1, by omega, by go_num, HF⟩
    case measure => simp [intOf]; omega
   have k3 : (nm == [46, 46]) = false := by simp [e0]
   go_wp2_with fail
   (with_reducible refine (HVK.out _).mono ?_); rintro e wx ⟨b, rfl, hb, rfl⟩
   cases b with
   | true =>
    have HF := lh (HNX.out (Or.inr (hb.1 rfl)))
    clear HNO HNX HVK hb
    go_wp2_with fail
    go_round
    case rel => exact ⟨k + 1, by omega, by go_num, HF⟩
    case measure => simp [intOf]; omega
   | false =>
    have HF := lh (HNO.out (fun h => by rcases h with h | h; exact e0 h; exact nomatch hb.2 h))
    clear HNO HNX HVK hb
    go_wp2_with fail
    go_ret
    exact sayE _ (by omega) HF.out
  ·obtain rfl : k = l.length := by omega
   have HF := lh (HQ1.out.2 (fun j h => hn.out j h h))
   clear hn HQ1
   go_wp2_with fail
   go_ret
   exact say0 HF.out
end Go.Proofs.YtfibaopngpfmjaaGreatDoor
