/- The reference's Get of a description. Conditions: those that each theorem names. -/
import Derived.Test.YtfibaopngpfmjaaGreatDoorRzI4
import Derived.Test.YtfibaopngpfmjaaGreatDoorRzB6
import Derived.Test.YtfibaopngpfmjaaGreatDoorRzA1
set_option linter.unusedVariables false
set_option linter.unusedSimpArgs false
set_option maxRecDepth 100000
set_option maxHeartbeats 16000000
namespace Go.Proofs.YtfibaopngpfmjaaGreatDoor
open Go.RowKit Go.Proofs
/-- A description, a place, a fault. -/
def DGt (n : Nat) (w : World) (e : Ending) (w' : World) : Prop := ∃ (a b c d f g h i j : Int) (p q r t : List UInt8) (k l : Int), e = .returned (.tuple #[.agg (dirv a b c d f g h i j p q r t), .int .i64 k, .int .i64 l]) ∧ (p.length ≤ n ∧ q.length ≤ n ∧ r.length ≤ n ∧ t.length ≤ n) ∧ Below w.heap.size w w'
theorem r7get_any (s : List UInt8) (at_ : Int) (w : World) (hs : s.length ≤ 9000000000) : Calls Tryz.prog 226 #[.string (T s), .int .i64 at_] w (DGt s.length w) := by
 have hsz : (T s).size = s.length := T_size s
 have HB0 := lh (alloc_below w (.cells (dirv 0 0 0 0 0 0 0 0 0 [] [] [] []) 46))
 have HZ0 := lh (heap_alloc_new w (.cells (dirv 0 0 0 0 0 0 0 0 0 [] [] [] []) 46))
 have HUD := lh (Tryz.underlying46)
 have HSD := lh (show ∀ (a b c d f g h i j : Int) (p q r t : List UInt8), (Tryz.prog.info? 46).map (·.size) = some (dirv a b c d f g h i j p q r t).size from fun _ _ _ _ _ _ _ _ _ _ _ _ _ => by kernel_rfl)
 have HAD := lh (show ∀ (a b c d f g h i j : Int) (p q r t : List UInt8), (dirv a b c d f g h i j p q r t).all (fun x => x.oneCell') = true from fun _ _ _ _ _ _ _ _ _ _ _ _ _ => by unfold dirv; simp [Value.oneCell'])
 have HDZ := lh (show ∀ (a b c d f g h i j : Int) (p q r t : List UInt8), (dirv 0 0 0 0 0 0 0 0 0 [] [] [] []).size = (dirv a b c d f g h i j p q r t).size from fun _ _ _ _ _ _ _ _ _ _ _ _ _ => rfl)
 have HBZ := lh (show Tryz.prog.built 46 [] = some (dirv 0 0 0 0 0 0 0 0 0 [] [] [] []) from by kernel_rfl)
 go_enter Tryz.func226, Tryz.ntmps226
 go_upto_region 1 with fail
 generalize hw1 : World.alloc _ _ = w1
 have HB1 := lh (show Below w.heap.size w w1 from by rw [← hw1]; exact HB0.out)
 have HZ1 := lh (show w1.heap[w.heap.size]? = some (.cells (dirv 0 0 0 0 0 0 0 0 0 [] [] [] []) 46) from by rw [← hw1]; exact HZ0.out)
 clear HB0 HZ0 hw1
 by_cases hneg : at_ < 0
 ·go_wp2_with (first | refine wpList_build_at rfl 46 _ rfl (dirv 0 0 0 0 0 0 0 0 0 [] [] [] []) (by simp only [List.map_toArray, List.map_nil]; exact HBZ.out) ?_ | refine wpList_store_row rfl 46 _ _ rfl w.heap.size (dirv 0 0 0 0 0 0 0 0 0 [] [] [] []) rfl rfl 46 (dirv 0 0 0 0 0 0 0 0 0 [] [] [] []) HZ1.out (HSD.out _ _ _ _ _ _ _ _ _ _ _ _ _) (HDZ.out _ _ _ _ _ _ _ _ _ _ _ _ _) (HAD.out _ _ _ _ _ _ _ _ _ _ _ _ _) ?_)
  exact bodyPost_ret (v := .tuple #[.agg (dirv 0 0 0 0 0 0 0 0 0 [] [] [] []), .int .i64 0, .int .i64 (1)]) (results_cell_row3 Tryz.results226 _ _ w.heap.size 46 (dirv 0 0 0 0 0 0 0 0 0 [] [] [] []) (0, 0) _ _ _ rfl rfl rfl (heap_setRow_same HZ1.out) HUD.out rfl (HSD.out _ _ _ _ _ _ _ _ _ _ _ _ _)) rfl ⟨0, 0, 0, 0, 0, 0, 0, 0, 0, [], [], [], [], 0, 1, rfl, by simp, below_setRow HB1.out (Nat.le_refl _) _⟩
 by_cases hbig : (s.length : Int) < at_
 ·go_wp2_with (first | refine wpList_build_at rfl 46 _ rfl (dirv 0 0 0 0 0 0 0 0 0 [] [] [] []) (by simp only [List.map_toArray, List.map_nil]; exact HBZ.out) ?_ | refine wpList_store_row rfl 46 _ _ rfl w.heap.size (dirv 0 0 0 0 0 0 0 0 0 [] [] [] []) rfl rfl 46 (dirv 0 0 0 0 0 0 0 0 0 [] [] [] []) HZ1.out (HSD.out _ _ _ _ _ _ _ _ _ _ _ _ _) (HDZ.out _ _ _ _ _ _ _ _ _ _ _ _ _) (HAD.out _ _ _ _ _ _ _ _ _ _ _ _ _) ?_)
  exact bodyPost_ret (v := .tuple #[.agg (dirv 0 0 0 0 0 0 0 0 0 [] [] [] []), .int .i64 0, .int .i64 (1)]) (results_cell_row3 Tryz.results226 _ _ w.heap.size 46 (dirv 0 0 0 0 0 0 0 0 0 [] [] [] []) (0, 0) _ _ _ rfl rfl rfl (heap_setRow_same HZ1.out) HUD.out rfl (HSD.out _ _ _ _ _ _ _ _ _ _ _ _ _)) rfl ⟨0, 0, 0, 0, 0, 0, 0, 0, 0, [], [], [], [], 0, 1, rfl, by simp, below_setRow HB1.out (Nat.le_refl _) _⟩
 obtain ⟨p, rfl⟩ := Int.eq_ofNat_of_zero_le (show 0 ≤ at_ by omega)
 have kneg : decide ((p : Int) < 0) = false := decide_eq_false hneg
 have kbig : decide ((s.length : Int) < (p : Int)) = false := decide_eq_false hbig
 have hw : IntKind.i64.wrap ((s.length : Int) - p) = (s.length : Int) - p := IntWalk.i64_in _ (by omega)
 by_cases hA : (s.length : Int) - p < 2
 ·go_wp2_with (first | refine wpList_build_at rfl 46 _ rfl (dirv 0 0 0 0 0 0 0 0 0 [] [] [] []) (by simp only [List.map_toArray, List.map_nil]; exact HBZ.out) ?_ | refine wpList_store_row rfl 46 _ _ rfl w.heap.size (dirv 0 0 0 0 0 0 0 0 0 [] [] [] []) rfl rfl 46 (dirv 0 0 0 0 0 0 0 0 0 [] [] [] []) HZ1.out (HSD.out _ _ _ _ _ _ _ _ _ _ _ _ _) (HDZ.out _ _ _ _ _ _ _ _ _ _ _ _ _) (HAD.out _ _ _ _ _ _ _ _ _ _ _ _ _) ?_)
  exact bodyPost_ret (v := .tuple #[.agg (dirv 0 0 0 0 0 0 0 0 0 [] [] [] []), .int .i64 0, .int .i64 (3)]) (results_cell_row3 Tryz.results226 _ _ w.heap.size 46 (dirv 0 0 0 0 0 0 0 0 0 [] [] [] []) (0, 0) _ _ _ rfl rfl rfl (heap_setRow_same HZ1.out) HUD.out rfl (HSD.out _ _ _ _ _ _ _ _ _ _ _ _ _)) rfl ⟨0, 0, 0, 0, 0, 0, 0, 0, 0, [], [], [], [], 0, 3, rfl, by simp, below_setRow HB1.out (Nat.le_refl _) _⟩
 have hA2 : decide ((s.length : Int) - p < 2) = false := decide_eq_false hA
 have hp1 : (p : Int) < s.length := by omega
 have hp2 : (p : Int) + 1 < s.length := by omega
 have hw2 : IntKind.i64.wrap ((p : Int) + 1) = (p : Int) + 1 := IntWalk.i64_in _ (by omega)
 have hp3 : (0 : Int) ≤ (p : Int) + 1 := by omega
 have hp4 : decide ((p : Int) + 1 < 0) = false := decide_eq_false (by omega)
 have hp5 : decide ((s.length : Int) ≤ (p : Int) + 1) = false := decide_eq_false (by omega)
 have hp6 : p < s.length := by omega
 have hp7 : p + 1 < s.length := by omega
 have hp8 : ((p : Int) + 1).toNat = p + 1 := by omega
 go_upto_region 5 with fail
 go_quiet (fail)
 obtain ⟨n, hn, hn2⟩ : ∃ n : Nat, wrap64 (wrap64 ((T s)[p].toNat : Int) + wrap64 (256 * wrap64 ((T s)[p + 1].toNat : Int))) = (n : Int) ∧ n ≤ 65535 := by
  have x1 := (T s)[p].toNat_lt
  have x2 := (T s)[p + 1].toNat_lt
  generalize (T s)[p].toNat = x at *
  generalize (T s)[p + 1].toNat = y at *
  refine ⟨x + 256 * y, ?_, by omega⟩
  rw [IntWalk.wrap64_in (x : Int) (by omega), IntWalk.wrap64_in (y : Int) (by omega), IntWalk.wrap64_in (256 * (y : Int)) (by omega), IntWalk.wrap64_in _ (by omega)]
  omega
 simp only [hn]
 have HB2 := lh (bnext HB1.out (below_drewN w1 nq))
 have HZ2 := lh (((below_drewN w1 nq).block _ (row_ltP HZ1.out)).trans HZ1.out)
 clear hn HB1 HZ1
 generalize World.drewN _ _ = w2 at *
 have hw3 : IntKind.i64.wrap ((s.length : Int) - p - 2) = (s.length : Int) - p - 2 := IntWalk.i64_in _ (by omega)
 have hw4 : IntKind.i64.wrap ((p : Int) + 2) = (p : Int) + 2 := IntWalk.i64_in _ (by omega)
 by_cases hB : (s.length : Int) - p - 2 < n
 ·go_wp2_with (first | refine wpList_build_at rfl 46 _ rfl (dirv 0 0 0 0 0 0 0 0 0 [] [] [] []) (by simp only [List.map_toArray, List.map_nil]; exact HBZ.out) ?_ | refine wpList_store_row rfl 46 _ _ rfl w.heap.size (dirv 0 0 0 0 0 0 0 0 0 [] [] [] []) rfl rfl 46 (dirv 0 0 0 0 0 0 0 0 0 [] [] [] []) HZ2.out (HSD.out _ _ _ _ _ _ _ _ _ _ _ _ _) (HDZ.out _ _ _ _ _ _ _ _ _ _ _ _ _) (HAD.out _ _ _ _ _ _ _ _ _ _ _ _ _) ?_)
  exact bodyPost_ret (v := .tuple #[.agg (dirv 0 0 0 0 0 0 0 0 0 [] [] [] []), .int .i64 0, .int .i64 (3)]) (results_cell_row3 Tryz.results226 _ _ w.heap.size 46 (dirv 0 0 0 0 0 0 0 0 0 [] [] [] []) (0, 0) _ _ _ rfl rfl rfl (heap_setRow_same HZ2.out) HUD.out rfl (HSD.out _ _ _ _ _ _ _ _ _ _ _ _ _)) rfl ⟨0, 0, 0, 0, 0, 0, 0, 0, 0, [], [], [], [], 0, 3, rfl, by simp, below_setRow HB2.out (Nat.le_refl _) _⟩
 have hB2 : decide ((s.length : Int) - p - 2 < n) = false := decide_eq_false hB
 have hw5 : IntKind.i64.wrap ((p : Int) + 2 + n) = (p : Int) + 2 + n := IntWalk.i64_in _ (by omega)
 have hr1 : (p : Int) + 2 + n ≤ s.length := by omega
 have hr2 : (p : Int) + 2 ≤ (p : Int) + 2 + n := by omega
 obtain ⟨x, hx, hxl⟩ : ∃ x, (T s).extract (p + 2) (p + 2 + n) = T x ∧ x.length = n := by
  rw [extract_T, show (T s).data.toList = s from by simp [T]]
  exact ⟨_, rfl, by simp; omega⟩
 by_cases hC : (n : Int) < 47
 ·go_wp2_with (first | refine wpList_build_at rfl 46 _ rfl (dirv 0 0 0 0 0 0 0 0 0 [] [] [] []) (by simp only [List.map_toArray, List.map_nil]; exact HBZ.out) ?_ | refine wpList_store_row rfl 46 _ _ rfl w.heap.size (dirv 0 0 0 0 0 0 0 0 0 [] [] [] []) rfl rfl 46 (dirv 0 0 0 0 0 0 0 0 0 [] [] [] []) HZ2.out (HSD.out _ _ _ _ _ _ _ _ _ _ _ _ _) (HDZ.out _ _ _ _ _ _ _ _ _ _ _ _ _) (HAD.out _ _ _ _ _ _ _ _ _ _ _ _ _) ?_)
  exact bodyPost_ret (v := .tuple #[.agg (dirv 0 0 0 0 0 0 0 0 0 [] [] [] []), .int .i64 0, .int .i64 (2)]) (results_cell_row3 Tryz.results226 _ _ w.heap.size 46 (dirv 0 0 0 0 0 0 0 0 0 [] [] [] []) (0, 0) _ _ _ rfl rfl rfl (heap_setRow_same HZ2.out) HUD.out rfl (HSD.out _ _ _ _ _ _ _ _ _ _ _ _ _)) rfl ⟨0, 0, 0, 0, 0, 0, 0, 0, 0, [], [], [], [], 0, 2, rfl, by simp, below_setRow HB2.out (Nat.le_refl _) _⟩
 have hC2 : decide ((n : Int) < 47) = false := decide_eq_false hC
 have hsx : (T x).size = n := by rw [T_size, hxl]
 have hx47 : (47 : Int) ≤ n := by omega
 obtain ⟨y, hy, hyl⟩ := ext_is x 47 n
 have HTX := lh (fun W => r7texts_any y W (by omega))
 go_wp2_with fail
 (with_reducible refine (HTX.out _).mono ?_); rintro e w3 ⟨ta, tb, tc, td, k, rfl, hlen, b3⟩
 have HB3 := lh (bnext HB2.out b3)
 have HZ3 := lh ((b3.block _ (row_ltP HZ2.out)).trans HZ2.out)
 have HLN := lh hlen
 clear b3 HB2 HZ2 HTX hlen
 go_upto_region 12 with fail
 have hz := heap_alloc_new w3 (.cells #[.string (T ta), .string (T tb), .string (T tc), .string (T td)] 290)
 have b4 := alloc_below w3 (.cells #[.string (T ta), .string (T tb), .string (T tc), .string (T td)] 290)
 have HB4 := lh (bnext HB3.out b4)
 have HZ4 := lh ((b4.block _ (row_ltP HZ3.out)).trans HZ3.out)
 have HT4 := lh hz
 have hg9 : w.heap.size < w3.heap.size := row_ltP HZ3.out
 clear hz b4 HB3 HZ3
 generalize World.alloc _ _ = w4 at *
 generalize w3.heap.size = g9 at *
 cases k
 ·go_wp2_with (first | refine wpList_build_at rfl 46 _ rfl (dirv 0 0 0 0 0 0 0 0 0 [] [] [] []) (by simp only [List.map_toArray, List.map_nil]; exact HBZ.out) ?_ | refine wpList_store_row rfl 46 _ _ rfl w.heap.size (dirv 0 0 0 0 0 0 0 0 0 [] [] [] []) rfl rfl 46 (dirv 0 0 0 0 0 0 0 0 0 [] [] [] []) HZ4.out (HSD.out _ _ _ _ _ _ _ _ _ _ _ _ _) (HDZ.out _ _ _ _ _ _ _ _ _ _ _ _ _) (HAD.out _ _ _ _ _ _ _ _ _ _ _ _ _) ?_)
  exact bodyPost_ret (v := .tuple #[.agg (dirv 0 0 0 0 0 0 0 0 0 [] [] [] []), .int .i64 0, .int .i64 (2)]) (results_cell_row3 Tryz.results226 _ _ w.heap.size 46 (dirv 0 0 0 0 0 0 0 0 0 [] [] [] []) (0, 0) _ _ _ rfl rfl rfl (heap_setRow_same HZ4.out) HUD.out rfl (HSD.out _ _ _ _ _ _ _ _ _ _ _ _ _)) rfl ⟨0, 0, 0, 0, 0, 0, 0, 0, 0, [], [], [], [], 0, 2, rfl, by simp, below_setRow HB4.out (Nat.le_refl _) _⟩
 have HN := lh (fun (a wd : Nat) (h : a + wd ≤ 47) (W : World) => r7numP x a wd W (by omega) (by omega))
 have HN6 := lh (fun W => show Calls Tryz.prog 249 #[.string (T x), .int .i64 6, .int .i64 1] W (fun e w' => e = .returned (.int .i64 (numv x 6 1)) ∧ w' = W) from HN.out 6 1 (by omega) W)
 have HN7 := lh (fun W => show Calls Tryz.prog 249 #[.string (T x), .int .i64 7, .int .i64 4] W (fun e w' => e = .returned (.int .i64 (numv x 7 4)) ∧ w' = W) from HN.out 7 4 (by omega) W)
 have HN11 := lh (fun W => show Calls Tryz.prog 249 #[.string (T x), .int .i64 11, .int .i64 8] W (fun e w' => e = .returned (.int .i64 (numv x 11 8)) ∧ w' = W) from HN.out 11 8 (by omega) W)
 go_wp2_with fail
 (with_reducible refine (HN6.out _).mono ?_); rintro e w5 ⟨rfl, rfl⟩
 go_wp2_with fail
 (with_reducible refine (HN7.out _).mono ?_); rintro e w5 ⟨rfl, rfl⟩
 go_wp2_with fail
 (with_reducible refine (HN11.out _).mono ?_); rintro e w5 ⟨rfl, rfl⟩
 go_upto_region 15 with fail
 have hz := heap_alloc_new w5 (.cells #[.int .i64 (numv x 6 1), .int .i64 (numv x 7 4), .int .i64 (numv x 11 8)] 44)
 have b6 := alloc_below w5 (.cells #[.int .i64 (numv x 6 1), .int .i64 (numv x 7 4), .int .i64 (numv x 11 8)] 44)
 have HB6 := lh (bnext HB4.out b6)
 have HZ6 := lh ((b6.block _ (row_ltP HZ4.out)).trans HZ4.out)
 have HT6 := lh ((b6.block _ (row_ltP HT4.out)).trans HT4.out)
 have HQ6 := lh hz
 have hg11 : g9 < w5.heap.size := row_ltP HT4.out
 clear hz b6 HB4 HZ4 HT4
 generalize World.alloc _ _ = w6 at *
 generalize w5.heap.size = g11 at *
 obtain ⟨⟨t0, t1, t2, t3⟩, _⟩ := fo_cells HT6.out
 obtain ⟨r0, r1, r2⟩ : w6.cell? ⟨g11, 0, none⟩ = some (.int .i64 (numv x 6 1)) ∧ w6.cell? ⟨g11, 1, none⟩ = some (.int .i64 (numv x 7 4)) ∧ w6.cell? ⟨g11, 2, none⟩ = some (.int .i64 (numv x 11 8)) := ⟨by rw [Lib.cell_of_heap HQ6.out]; rfl, by rw [Lib.cell_of_heap HQ6.out]; rfl, by rw [Lib.cell_of_heap HQ6.out]; rfl⟩
 have HM0 := lh (fun W => show Calls Tryz.prog 249 #[.string (T x), .int .i64 0, .int .i64 2] W (fun e w' => e = .returned (.int .i64 (numv x 0 2)) ∧ w' = W) from HN.out 0 2 (by omega) W)
 generalize numv x 0 2 = v0 at *
 have HM2 := lh (fun W => show Calls Tryz.prog 249 #[.string (T x), .int .i64 2, .int .i64 4] W (fun e w' => e = .returned (.int .i64 (numv x 2 4)) ∧ w' = W) from HN.out 2 4 (by omega) W)
 generalize numv x 2 4 = v2 at *
 have HM19 := lh (fun W => show Calls Tryz.prog 249 #[.string (T x), .int .i64 19, .int .i64 4] W (fun e w' => e = .returned (.int .i64 (numv x 19 4)) ∧ w' = W) from HN.out 19 4 (by omega) W)
 generalize numv x 19 4 = v19 at *
 have HM23 := lh (fun W => show Calls Tryz.prog 249 #[.string (T x), .int .i64 23, .int .i64 8] W (fun e w' => e = .returned (.int .i64 (numv x 23 8)) ∧ w' = W) from HN.out 23 8 (by omega) W)
 generalize numv x 23 8 = v23 at *
 have HM31 := lh (fun W => show Calls Tryz.prog 249 #[.string (T x), .int .i64 31, .int .i64 8] W (fun e w' => e = .returned (.int .i64 (numv x 31 8)) ∧ w' = W) from HN.out 31 8 (by omega) W)
 generalize numv x 31 8 = v31 at *
 have HM39 := lh (fun W => show Calls Tryz.prog 249 #[.string (T x), .int .i64 39, .int .i64 8] W (fun e w' => e = .returned (.int .i64 (numv x 39 8)) ∧ w' = W) from HN.out 39 8 (by omega) W)
 generalize numv x 39 8 = v39 at *
 generalize numv x 6 1 = v6 at *
 generalize numv x 7 4 = v7 at *
 generalize numv x 11 8 = v11 at *
 have HBD := lh (show ∀ (a b c d f g h i j : Int) (p q r t : List UInt8), Tryz.prog.built 46 [(0, .int .i64 a), (1, .int .i64 b), (2, .agg #[.int .i64 c, .int .i64 d, .int .i64 f]), (3, .int .i64 g), (4, .int .i64 h), (5, .int .i64 i), (6, .int .i64 j), (7, .string (T p)), (8, .string (T q)), (9, .string (T r)), (10, .string (T t))] = some (dirv a b c d f g h i j p q r t) from fun a b c d f g h i j p q r t => by kernel_rfl)
 have lt9 := row_ltP HT6.out
 have lt11 := row_ltP HQ6.out
 have HSW := lh (fun (W : World) (h : Below w6.heap.size w6 W) => show (fun W' => (W'.cell? ⟨g9, 0, none⟩ = some (.string (T ta)) ∧ W'.cell? ⟨g9, 1, none⟩ = some (.string (T tb)) ∧ W'.cell? ⟨g9, 2, none⟩ = some (.string (T tc)) ∧ W'.cell? ⟨g9, 3, none⟩ = some (.string (T td))) ∧ W'.cell? ⟨g11, 0, none⟩ = some (.int .i64 v6) ∧ W'.cell? ⟨g11, 1, none⟩ = some (.int .i64 v7) ∧ W'.cell? ⟨g11, 2, none⟩ = some (.int .i64 v11)) W from ⟨⟨cell_below h lt9 t0, cell_below h lt9 t1, cell_below h lt9 t2, cell_below h lt9 t3⟩, cell_below h lt11 r0, cell_below h lt11 r1, cell_below h lt11 r2⟩)
 have hS0 := HSW.out _ (below_drew1 w6)
 clear t0 t1 t2 t3 r0 r1 r2 lt9 lt11
 refine wp_region_held_drew (S := (fun W' => (W'.cell? ⟨g9, 0, none⟩ = some (.string (T ta)) ∧ W'.cell? ⟨g9, 1, none⟩ = some (.string (T tb)) ∧ W'.cell? ⟨g9, 2, none⟩ = some (.string (T tc)) ∧ W'.cell? ⟨g9, 3, none⟩ = some (.string (T td))) ∧ W'.cell? ⟨g11, 0, none⟩ = some (.int .i64 v6) ∧ W'.cell? ⟨g11, 1, none⟩ = some (.int .i64 v7) ∧ W'.cell? ⟨g11, 2, none⟩ = some (.int .i64 v11))) (by kernel_rfl) hS0 (fun hHeld => ?_)
 refine tk 0 75 ?_
 refine tk 2 77 ?_
 refine tk 5 80 ?_
 refine tk 7 82 ?_
 refine tk 9 84 ?_
 refine tk 11 86 ?_
 refine tk 4 79 ?_
 refine tk 13 88 ?_
 refine tk 14 89 ?_
 refine tk 15 90 ?_
 refine tk 16 91 ?_
 refine tk 17 92 ?_
 refine tk 18 93 ?_
 refine tk 19 94 ?_
 refine tk 20 95 ?_
 refine wpAnyH_takeQ (i := 1) (d := 76) (v := .int .i64 v0) rfl rfl (by kernel_rfl) (by kernel_rfl) (by kernel_rfl) (fun _ _ _ h => h) ⟨by rfl, 249, #[.string (T x), .int .i64 0, .int .i64 2], fun w => by (go_simp <;> with_reducible rfl), fun w _ => HM0.out w⟩ (by assumption) ?_
 try simp only [Act.put, px1, px2, px3]
 refine wpAnyH_takeQ (i := 3) (d := 78) (v := .int .i64 v2) rfl rfl (by kernel_rfl) (by kernel_rfl) (by kernel_rfl) (fun _ _ _ h => h) ⟨by rfl, 249, #[.string (T x), .int .i64 2, .int .i64 4], fun w => by (go_simp <;> with_reducible rfl), fun w _ => HM2.out w⟩ (by assumption) ?_
 try simp only [Act.put, px1, px2, px3]
 refine wpAnyH_takeQ (i := 6) (d := 81) (v := .int .i64 v19) rfl rfl (by kernel_rfl) (by kernel_rfl) (by kernel_rfl) (fun _ _ _ h => h) ⟨by rfl, 249, #[.string (T x), .int .i64 19, .int .i64 4], fun w => by (go_simp <;> with_reducible rfl), fun w _ => HM19.out w⟩ (by assumption) ?_
 try simp only [Act.put, px1, px2, px3]
 refine wpAnyH_takeQ (i := 8) (d := 83) (v := .int .i64 v23) rfl rfl (by kernel_rfl) (by kernel_rfl) (by kernel_rfl) (fun _ _ _ h => h) ⟨by rfl, 249, #[.string (T x), .int .i64 23, .int .i64 8], fun w => by (go_simp <;> with_reducible rfl), fun w _ => HM23.out w⟩ (by assumption) ?_
 try simp only [Act.put, px1, px2, px3]
 refine wpAnyH_takeQ (i := 10) (d := 85) (v := .int .i64 v31) rfl rfl (by kernel_rfl) (by kernel_rfl) (by kernel_rfl) (fun _ _ _ h => h) ⟨by rfl, 249, #[.string (T x), .int .i64 31, .int .i64 8], fun w => by (go_simp <;> with_reducible rfl), fun w _ => HM31.out w⟩ (by assumption) ?_
 try simp only [Act.put, px1, px2, px3]
 refine wpAnyH_takeQ (i := 12) (d := 87) (v := .int .i64 v39) rfl rfl (by kernel_rfl) (by kernel_rfl) (by kernel_rfl) (fun _ _ _ h => h) ⟨by rfl, 249, #[.string (T x), .int .i64 39, .int .i64 8], fun w => by (go_simp <;> with_reducible rfl), fun w _ => HM39.out w⟩ (by assumption) ?_
 try simp only [Act.put, px1, px2, px3]
 refine tkY (v := .agg (dirv v0 v2 v6 v7 v11 v19 v23 v31 v39 ta tb tc td)) 21 96 rfl (yieldsIf_build (by rfl) 46 _ rfl (dirv v0 v2 v6 v7 v11 v19 v23 v31 v39 ta tb tc td) (by simp only [List.map_toArray, List.map_cons, List.map_nil]; exact HBD.out _ _ _ _ _ _ _ _ _ _ _ _ _)) ?_
 refine rdy 22 (fun K hK => ?_)
 go_simp
 have ba := bnext (alloc_below w6 (.cells (dirv 0 0 0 0 0 0 0 0 0 [] [] [] []) 46)) (below_drew1 _)
 have hz : ((w6.alloc (.cells (dirv 0 0 0 0 0 0 0 0 0 [] [] [] []) 46)).drew).heap[w6.heap.size]? = some (.cells (dirv 0 0 0 0 0 0 0 0 0 [] [] [] []) 46) := heap_alloc_new w6 _
 refine hK.out _ _ (HSW.out _ ba) (fun hHeld => ?_)
 clear hK K
 try simp only [Act.put, px1, px2, px3]
 generalize hwa : World.drew (World.alloc _ _) = wa
 have HBA := lh (show Below w6.heap.size w6 wa from by rw [← hwa]; exact ba)
 have HZA := lh (show wa.heap[w6.heap.size]? = some (.cells (dirv 0 0 0 0 0 0 0 0 0 [] [] [] []) 46) from by rw [← hwa]; exact hz)
 clear hHeld ba hz hwa hS0
 refine rdy 23 (fun K hK => ?_)
 have HSDX := lh (HSD.out v0 v2 v6 v7 v11 v19 v23 v31 v39 ta tb tc td)
 have HA0 := lh (HAD.out 0 0 0 0 0 0 0 0 0 [] [] [] [])
 have HADX := lh (HAD.out v0 v2 v6 v7 v11 v19 v23 v31 v39 ta tb tc td)
 have HDZX := lh (HDZ.out v0 v2 v6 v7 v11 v19 v23 v31 v39 ta tb tc td)
 have HCK := lh (fun W => r7check_any v0 v2 v6 v7 v11 v19 v23 v31 v39 ta tb tc td W (by have := HLN.out; omega))
 have HFI := lh (fun (k : Int) (W : World) (hb : Below w.heap.size w W) => (show DGt s.length w (.returned (.tuple #[.agg (dirv v0 v2 v6 v7 v11 v19 v23 v31 v39 ta tb tc td), .int .i64 k, .int .i64 0])) W from ⟨v0, v2, v6, v7, v11, v19, v23, v31, v39, ta, tb, tc, td, k, 0, rfl, by have := HLN.out; omega, hb⟩))
 have HFE := lh (fun (k : Int) (W : World) (hb : Below w.heap.size w W) => (show DGt s.length w (.returned (.tuple #[.agg (dirv 0 0 0 0 0 0 0 0 0 [] [] [] []), .int .i64 0, .int .i64 k])) W from ⟨0, 0, 0, 0, 0, 0, 0, 0, 0, [], [], [], [], 0, k, rfl, by simp, hb⟩))
 clear HSD HAD HDZ HBD HM0 HM2 HM19 HM23 HM31 HM39 HN HN6 HN7 HN11 HLN HT6 HQ6
 generalize dirv v0 v2 v6 v7 v11 v19 v23 v31 v39 ta tb tc td = DD at *
 generalize dirv 0 0 0 0 0 0 0 0 0 [] [] [] [] = D0 at *
 refine step_store_row rfl 46 _ _ rfl rfl w6.heap.size DD rfl rfl 46 D0 HZA.out HSDX.out HDZX.out HADX.out ?_
 have hb15 := below_setRow HBA.out (Nat.le_refl w6.heap.size) DD
 have HD15 := lh (heap_setRow_same (cs' := DD) HZA.out)
 have HB15 := lh (bnext HB6.out hb15)
 have HZ15 := lh ((hb15.block _ (row_ltP HZ6.out)).trans HZ6.out)
 refine hK.out _ _ (HSW.out _ hb15) (fun hHeld => ?_)
 clear hK K hb15 HBA HZA
 generalize World.setRow _ _ _ = w15 at *
 try simp only [Act.put, px1, px2, px3]
 refine wpAnyH_done (by kernel_rfl) ?_ _
 clear hHeld HSW HB6 HZ6
 generalize w6.heap.size = g12 at *
 go_wp2_with (refine wpList_load_row rfl 46 _ rfl g12 rfl 46 DD (0, 0) _ HD15.out HUD.out rfl HSDX.out ?_)
 (with_reducible refine (HCK.out _).mono ?_); rintro e w16 ⟨kc, rfl, _, b16⟩
 have HD16 := lh ((b16.block _ (row_ltP HD15.out)).trans HD15.out)
 have HB16 := lh (bnext HB15.out b16)
 have HZ16 := lh ((b16.block _ (row_ltP HZ15.out)).trans HZ15.out)
 clear b16 HD15 HB15 HZ15 HCK
 have HSD0 := lh (show (Tryz.prog.info? 46).map (·.size) = some D0.size from by rw [HDZX.out]; exact HSDX.out)
 by_cases hkc : kc = 0
 ·subst hkc
  go_wp2_with (first | refine wpList_load_row rfl 46 _ rfl g12 rfl 46 DD (0, 0) _ HD16.out HUD.out rfl HSDX.out ?_ | refine wpList_store_row rfl 46 _ _ rfl w.heap.size DD rfl rfl 46 D0 HZ16.out HSDX.out HDZX.out HADX.out ?_)
  refine bodyPost_ret (v := .tuple #[.agg DD, .int .i64 ((p : Int) + 2 + n), .int .i64 0]) ?_ rfl (HFI.out _ _ (below_setRow HB16.out (Nat.le_refl _) _))
  exact results_cell_row3 Tryz.results226 _ _ w.heap.size 46 DD (0, 0) _ _ _ rfl rfl rfl (heap_setRow_same HZ16.out) HUD.out rfl HSDX.out
 ·have hkc2 : (kc != 0) = true := by simp [hkc]
  clear hkc
  go_wp2_with (first | refine wpList_build_at rfl 46 _ rfl D0 (by simp only [List.map_toArray, List.map_nil]; exact HBZ.out) ?_ | refine wpList_store_row rfl 46 _ _ rfl w.heap.size D0 rfl rfl 46 D0 HZ16.out HSD0.out rfl HA0.out ?_)
  refine bodyPost_ret (v := .tuple #[.agg D0, .int .i64 0, .int .i64 kc]) ?_ rfl (HFE.out _ _ (below_setRow HB16.out (Nat.le_refl _) _))
  exact results_cell_row3 Tryz.results226 _ _ w.heap.size 46 D0 (0, 0) _ _ _ rfl rfl rfl (heap_setRow_same HZ16.out) HUD.out rfl HSD0.out
end Go.Proofs.YtfibaopngpfmjaaGreatDoor
