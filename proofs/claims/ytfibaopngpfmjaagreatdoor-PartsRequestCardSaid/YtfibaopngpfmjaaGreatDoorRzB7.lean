/- The fixed examples. Conditions: those that each theorem names. -/
import Derived.Test.YtfibaopngpfmjaaGreatDoorRzA9
import Derived.Test.YtfibaopngpfmjaaGreatDoorRzB6
set_option linter.unusedVariables false
set_option linter.unusedSimpArgs false
set_option maxRecDepth 100000
set_option maxHeartbeats 4000000
namespace Go.Proofs.YtfibaopngpfmjaaGreatDoor
open Go.RowKit Go.Proofs
def endw : List UInt8 := [101, 110, 100]
theorem Lx.prog_eq (s : List UInt8) : T [101, 99, 104, 111, 32] ++ T (Lx.quote s) ++ T [32, 101, 110, 100] = T (Lx.prog [echo, s, endw]) := by
 have h1 : Lx.quote echo = [101, 99, 104, 111] := by decide
 have h2 : Lx.quote endw = [101, 110, 100] := by decide
 have h3 : Lx.prog [echo, s, endw] = [101, 99, 104, 111, 32] ++ Lx.quote s ++ [32, 101, 110, 100] := by
  show Lx.quote echo ++ (32 :: (Lx.quote s ++ (32 :: (Lx.quote endw ++ [])))) = _
  rw [h1, h2]
  simp
 rw [T_append, T_append, h3]
theorem marks_length (v : List UInt8) : (Lx.marks v).length = v.length := by simp [Lx.marks]
theorem words_any (m : Int) (s : List UInt8) (w : World) (hm : w.cell? ⟨0, 0, none⟩ = some (.int .i64 m))
  (haw : ∀ W : World, W.cell? ⟨0, 0, none⟩ = some (.int .i64 m) → Calls Tryz.prog 5 #[] W fun e w' => e = .returned (.bool true) ∧ Below W.heap.size W w') :
  Calls Tryz.prog 3 #[.string (T s)] w fun e w' => e = .returned (.bool true) ∧ Below w.heap.size w w' := by
 have hm0 : 0 < w.heap.size := block_lt_of_cell hm
 have hsz : (T s).size = s.length := T_size s
 have HA := lh haw
 have HM := lh hm
 clear haw
 by_cases hlong : 200 < s.length
 ·have h1 : (200 : Int) < (s.length : Int) := by omega
  clear hm
  go_enter Tryz.func3, Tryz.ntmps3
  go_wp2_with fail
  have hm1 := HM.out
  (with_reducible refine (HA.out _ hm1).mono ?_); rintro e w1 ⟨rfl, b1⟩
  have HB := lh b1
  clear b1 hm1
  go_wp2_with fail
  go_ret
  exact ⟨rfl, HB.out⟩
 ·have h1 : (s.length : Int) ≤ 200 := by omega
  have hql := Lx.quote_le s
  have HQ := lh (quote_any s m w (by omega) hm hm0)
  have HP := lh (fun (W : World) h => program_any m [s, endw] W (by simp) (by
   have h2 : Lx.quote endw = [101, 110, 100] := by decide
   have h3 : Lx.quote echo = [101, 99, 104, 111] := by decide
   show (Lx.quote echo ++ (32 :: (Lx.quote s ++ (32 :: (Lx.quote endw ++ []))))).length ≤ 10000
   rw [h2, h3]
   simp
   omega) h)
  rw [← Lx.prog_eq] at HP
  have HE := lh (fun (t : Tok) (W : World) h => expWord_any t W h)
  have hn1 : ¬ 9223372036854775807 < 5 + (Lx.quote s).length := by omega
  have hn2 : ¬ 9223372036854775807 < 5 + (Lx.quote s).length + 4 := by omega
  clear hm hql
  generalize Lx.quote s = q at *
  go_enter Tryz.func3, Tryz.ntmps3
  go_wp2_with fail
  (with_reducible refine HQ.out.mono ?_); rintro e w1 ⟨rfl, b1⟩
  have HB1 := lh b1
  have hm1 := (b1.cell (p := ⟨0, 0, none⟩) hm0).trans HM.out
  clear b1
  go_wp2_with fail
  refine (HP.out _ hm1).mono ?_; rintro e w2 ⟨l, p, cb, cc, k, wc, rfl, hci, hkey, b2⟩
  have HB2 := lh (bnext HB1.out b2)
  have hll : l.length = 3 := by have := congrArg List.length hkey; simpa using this
  obtain ⟨t, ht⟩ : ∃ t, l[1]? = some t := ⟨_, List.getElem?_eq_getElem (by omega)⟩
  have htk : t.key = Lx.key s := by
   have h2 : (l.map Tok.key)[1]? = some t.key := by rw [List.getElem?_map, ht]; rfl
   rw [hkey] at h2
   exact (Option.some.inj h2).symm
  have htx : t.text = s := congrArg (fun x => x.2.1) htk
  have htq : t.quoted = Lx.marks s := congrArg (fun x => x.2.2) htk
  obtain ⟨⟨c0, c1, c2, c3, c4, c5⟩, _, hk, hw⟩ := hci
  obtain ⟨t', ht', d0, d1, d2, d3, d4⟩ := hw 1 (by omega)
  obtain rfl : t' = t := Option.some.inj (ht'.symm.trans ht)
  rw [htx] at d1
  rw [htq] at d2
  rw [hll] at c3
  have HE1 := lh (HE.out ⟨1, 0, s, Lx.marks s⟩ w2 (marks_length s))
  have hmk : (T (Lx.marks s)).size = s.length := by rw [T_size, marks_length]
  clear b2 hm1 HB1 HQ HP hkey hll ht htk htx htq hk hw ht' HE
  generalize Lx.marks s = ms at *
  go_wp2_with fail
  (with_reducible refine HE1.out.mono ?_); rintro e w3 ⟨a, ac, b, bd, rfl, h0, h2, b3⟩
  have HB3 := lh (bnext HB2.out b3)
  have hm3 := (HB3.out.cell (p := ⟨0, 0, none⟩) hm0).trans HM.out
  clear b3 HB2 c0 c1 c2 c3 c4 c5 d0 d1 d2 d3 d4
  go_wp2_with fail
  (with_reducible refine (HA.out _ hm3).mono ?_); rintro e w4 ⟨rfl, b4⟩
  have HB4 := lh (bnext HB3.out b4)
  clear b4
  go_wp2_with fail
  go_ret
  exact ⟨rfl, HB4.out⟩
def abw : List UInt8 := [97, 32, 98]
theorem Lx.prog_ab : T [101, 99, 104, 111, 32] ++ T (Lx.quote abw) = T (Lx.prog [echo, abw]) := by
 rw [T_append]
 exact congrArg T (by decide)
theorem awake_any (m : Int) (w : World) (hm : w.cell? ⟨0, 0, none⟩ = some (.int .i64 m)) :
  Calls Tryz.prog 5 #[] w fun e w' => e = .returned (.bool true) ∧ Below w.heap.size w w' := by
 have hm0 : 0 < w.heap.size := block_lt_of_cell hm
 have HM := lh hm
 have HQ := lh (show Calls Tryz.prog 7 #[.string (T [97, 32, 98])] w fun e w' => e = .returned (.string (T (Lx.quote abw))) ∧ Below w.heap.size w w' from quote_any abw m w (by decide) hm hm0)
 have HP := lh (fun (W : World) h => program_any m [abw] W (by decide) (by decide) h)
 rw [← Lx.prog_ab] at HP
 have HE := lh (fun (t : Tok) (W : World) h => expWord_any t W h)
 have hq5 : (Lx.quote abw).length = 5 := by decide
 have hn1 : ¬ 9223372036854775807 < 5 + (Lx.quote abw).length := by omega
 have HNW := lh (fun W => new_any W)
 have HST := lh (fun W => show Calls Tryz.prog 11 #[clv (.slice none 0 0), .agg (clm 0 7).cs.toArray] W fun e w' => ∃ ao n c, e = .returned (.tuple #[clv (.slice ao n c), .int .i64 1, .string (T cb17), .int .i64 0]) ∧ Below W.heap.size W w' from start_clunk 7 (by omega) (by omega) W)
 have HGE := lh (fun W => get_clunk17 W)
 have HBU : RowKit.Hid (Tryz.prog.built 48 [(0, .int .i64 120), (2, .int .i64 7)] = some (clm 0 7).cs.toArray) := lh (by kernel_rfl)
 have HSZ := lh (mg_size (clm 1 7))
 have HSY : RowKit.Hid (mg0.cs.toArray.size = (clm 1 7).cs.toArray.size) := lh rfl
 have HAL := lh (mg_all (clm 1 7) (clm_ok 1 7))
 have HC := lh (show ∀ (W : World) (p : Nat), W.heap[p]? = some (mgobj (clm 1 7)) → W.cell? ⟨p, 1, none⟩ = some (.int .i64 1) ∧ W.cell? ⟨p, 2, none⟩ = some (.int .i64 7) from fun W p h => ⟨by rw [Lib.cell_of_heap h]; rfl, by rw [Lib.cell_of_heap h]; rfl⟩)
 have hsz : (T cb17).size = 11 := by rw [T_size, cb17_len]
 clear hm hq5
 unfold clv mgobj at *
 generalize (clm 1 7).cs.toArray = A7 at *
 generalize (clm 0 7).cs.toArray = A0 at *
 generalize cb17 = cb at *
 generalize Lx.quote abw = q at *
 go_enter Tryz.func5, Tryz.ntmps5
 go_wp2_with fail
 (with_reducible refine HQ.out.mono ?_); rintro e w1 ⟨rfl, b1⟩
 have HB1 := lh b1
 have hm1 := (b1.cell (p := ⟨0, 0, none⟩) hm0).trans HM.out
 clear b1
 go_wp2_with fail
 refine (HP.out _ hm1).mono ?_; rintro e w2 ⟨l, p, cb2, cc, k, wc, rfl, hci, hkey, b2⟩
 have HB2 := lh (bnext HB1.out b2)
 have hll : l.length = 2 := by have := congrArg List.length hkey; simpa using this
 obtain ⟨t, ht⟩ : ∃ t, l[1]? = some t := ⟨_, List.getElem?_eq_getElem (by omega)⟩
 have htk : t.key = Lx.key abw := by
  have h2 : (l.map Tok.key)[1]? = some t.key := by rw [List.getElem?_map, ht]; rfl
  rw [hkey] at h2
  exact (Option.some.inj h2).symm
 have htx : t.text = abw := congrArg (fun x => x.2.1) htk
 have htq : t.quoted = Lx.marks abw := congrArg (fun x => x.2.2) htk
 obtain ⟨⟨c0, c1, c2, c3, c4, c5⟩, _, hk, hw⟩ := hci
 obtain ⟨t', ht', d0, d1, d2, d3, d4⟩ := hw 1 (by omega)
 obtain rfl : t' = t := Option.some.inj (ht'.symm.trans ht)
 rw [htx] at d1
 rw [htq] at d2
 rw [hll] at c3
 have HE1 := lh (HE.out ⟨1, 0, abw, Lx.marks abw⟩ w2 (marks_length abw))
 clear b2 hm1 HB1 HQ HP hkey hll ht htk htx htq hk hw ht' HE
 generalize Lx.marks abw = ms at *
 have kab : (T abw = T [97, 32, 98]) = True := eq_true rfl
 go_wp2_with fail
 (with_reducible refine HE1.out.mono ?_); rintro e w3 ⟨a, ac, b, bd, rfl, h0, h2, b3⟩
 have HB3 := lh (bnext HB2.out b3)
 have ha := block_lt_of_cell h0
 have H0 := lh h0
 clear b3 HB2 c0 c1 c2 c3 c4 c5 d0 d1 d2 d3 d4 h0 h2 HE1
 go_wp2_with fail
 (with_reducible refine (HNW.out _).mono ?_); rintro e w4 ⟨rfl, b4⟩
 have HB4 := lh (bnext HB3.out b4)
 have H04 := lh ((b4.cell (p := ⟨a, 0, none⟩) ha).trans H0.out)
 have ha4 : a < w4.heap.size := Nat.lt_of_lt_of_le ha b4.size
 clear b4 HB3 H0 ha
 go_wp2_with (refine wpList_build_at rfl 48 _ rfl A0 (by simp only [List.map_toArray, List.map_cons, List.map_nil]; exact HBU.out) ?_)
 (with_reducible refine (HST.out _).mono ?_); rintro e w5 ⟨ao, n, c, rfl, b5⟩
 have HB5 := lh (bnext HB4.out b5)
 have H05 := lh ((b5.cell (p := ⟨a, 0, none⟩) ha4).trans H04.out)
 have ha5 : a < w5.heap.size := Nat.lt_of_lt_of_le ha4 b5.size
 clear b5 HB4 H04 ha4
 go_upto_region 6 with fail
 generalize hw6 : World.alloc _ _ = w6
 have b6 := (show Below w5.heap.size w5 w6 from by rw [← hw6]; exact alloc_below w5 _)
 have HB6 := lh (bnext HB5.out b6)
 have H06 := lh ((b6.cell (p := ⟨a, 0, none⟩) ha5).trans H05.out)
 have ha6 : a < w6.heap.size := Nat.lt_of_lt_of_le ha5 b6.size
 clear b6 HB5 H05 ha5 hw6
 go_wp2_with fail
 (with_reducible refine (HGE.out _).mono ?_); rintro e w7 ⟨rfl, b7⟩
 have HB7 := lh (bnext HB6.out b7)
 have H07 := lh ((b7.cell (p := ⟨a, 0, none⟩) ha6).trans H06.out)
 have ha7 : a < w7.heap.size := Nat.lt_of_lt_of_le ha6 b7.size
 clear b7 HB6 H06 ha6
 have hz7 := heap_alloc_new w7 (.cells mg0.cs.toArray 48)
 go_upto_region 7 with (refine wpList_store_row rfl 48 _ _ rfl w7.heap.size A7 rfl rfl 48 mg0.cs.toArray hz7 HSZ.out HSY.out HAL.out ?_)
 generalize hw8 : World.setRow _ _ _ = w8
 have b8 := (show Below w7.heap.size w7 w8 from by rw [← hw8]; exact below_setRow (alloc_below w7 _) (Nat.le_refl _) _)
 have KP8 := lh (show w8.heap[w7.heap.size]? = some (.cells A7 48) from by rw [← hw8]; exact heap_setRow_same (heap_alloc_new w7 _))
 clear hw8 hz7
 have HB8 := lh (bnext HB7.out b8)
 have h0 := (b8.cell (p := ⟨a, 0, none⟩) ha7).trans H07.out
 obtain ⟨k1, k2⟩ := HC.out _ _ KP8.out
 clear b8 HB7 H07 ha7
 generalize w7.heap.size = g at *
 go_wp2_with fail
 go_ret
 exact ⟨rfl, HB8.out⟩
theorem words_true (m : Int) (s : List UInt8) (w : World) (hm : w.cell? ⟨0, 0, none⟩ = some (.int .i64 m)) :
  Calls Tryz.prog 3 #[.string (T s)] w fun e w' => e = .returned (.bool true) ∧ Below w.heap.size w w' :=
 words_any m s w hm (fun W h => awake_any m W h)
end Go.Proofs.YtfibaopngpfmjaaGreatDoor
