/- The examples of the chapter: alive returns true. Conditions: the 64 constants in the variable. -/
import Derived.Test.YtpcieookddpkhaaDoorBlkBox
import Derived.Test.YtpcieookddpkhaaDoorBlkLogP
set_option linter.unusedVariables false
set_option linter.unusedSimpArgs false
namespace Go.Proofs.YtpcieookddpkhaaDoor
open Go.RowKit
theorem T_get {L : List UInt8} {i : Nat} {c : UInt8} (h : L[i]? = some c) (hb : i < (T L).size) : ((T L)[i]'hb).toNat = c.toNat := by
  obtain ⟨h1, h2⟩ := List.getElem?_eq_some_iff.1 h
  have e : (T L)[i]'hb = c := by
    show L.toArray[i] = c
    simpa using h2
  rw [e]
set_option maxRecDepth 100000 in
set_option maxHeartbeats 4000000 in
theorem alive_any (w : World) (hK : KIn w) :
    Calls Tryd.prog 9 #[] w fun e w' => e = .returned (.bool true) ∧ Below w.heap.size w w' := by
  have HB := Lib.hid (Below.refl w.heap.size w)
  have HKK := Lib.hid (fun (w' : World) (hb : Below w.heap.size w w') => hK.below hb)
  clear hK
  have HN := Lib.hid (new_any 2 w)
  rw [show Blok.capOf 2 = 2 from by decide] at HN
  have HP1 := Lib.hid (fun (v : Value) (w' : World) (hb : Below w.heap.size w w') (h : Blks w' v []) => bput_own 2 v [] 1 Blok.abc w' h (by simp) (by decide) (HKK.out w' hb))
  have HP2 := Lib.hid (fun (v : Value) (w' : World) (hb : Below w.heap.size w w') (h : Blks w' v [Blok.made 1 Blok.abc]) => bput_own 2 v [Blok.made 1 Blok.abc] 1 Blok.abc w' h (by simp) (by decide) (HKK.out w' hb))
  have HP3 := Lib.hid (fun (v : Value) (w' : World) (hb : Below w.heap.size w w') (h : Blks w' v [Blok.made 1 Blok.abc]) => bput_own 2 v [Blok.made 1 Blok.abc] 2 Blok.abc w' h (by simp) (by decide) (HKK.out w' hb))
  have HP4 := Lib.hid (fun (v : Value) (w' : World) (hb : Below w.heap.size w w') (h : Blks w' v [Blok.made 1 Blok.abc, Blok.made 2 Blok.abc]) => bput_own 2 v [Blok.made 1 Blok.abc, Blok.made 2 Blok.abc] 1 Blok.abd w' h (by simp) (by decide) (HKK.out w' hb))
  have hd : ∀ j (h : j < [Blok.made 1 Blok.abc, Blok.made 2 Blok.abc].length), ([Blok.made 1 Blok.abc, Blok.made 2 Blok.abc][j]'h).dt.length ≤ 1000000 := fun j h => by
    have := (Blok.wf_fair Blok.alw _ (List.getElem_mem h)).2.2.1; omega
  have HG := Lib.hid (fun (v : Value) (x : List UInt8) (w' : World) (hb : Below w.heap.size w w') (h : Blks w' v [Blok.made 1 Blok.abc, Blok.made 2 Blok.abc]) => bkget_any 2 v [Blok.made 1 Blok.abc, Blok.made 2 Blok.abc] x 2 w' (HKK.out w' hb) h (by simp) hd)
  have HL := Lib.hid (fun (v : Value) (w' : World) (h : Blks w' v [Blok.made 1 Blok.abc, Blok.made 2 Blok.abc]) => log_any 2 v [Blok.made 1 Blok.abc, Blok.made 2 Blok.abc] w' h (by simp) (Blok.wf_fair Blok.alw))
  have HU := Lib.hid (fun (v : Value) (w' : World) (h : Blks w' v [Blok.made 1 Blok.abc, Blok.made 2 Blok.abc]) => used_any 2 v [Blok.made 1 Blok.abc, Blok.made 2 Blok.abc] w' h (by simp) hd)
  have HH := Lib.hid (fun (v : Value) (w' : World) (h : Blks w' v [Blok.made 1 Blok.abc, Blok.made 2 Blok.abc]) => has_any 2 v [Blok.made 1 Blok.abc, Blok.made 2 Blok.abc] (Blok.scr 1 Blok.abc) w' h (by simp))
  have HRI := Lib.hid (fun (v : Value) (w' : World) (h : Blks w' v [Blok.made 1 Blok.abc, Blok.made 2 Blok.abc]) => bright_any 2 v [Blok.made 1 Blok.abc, Blok.made 2 Blok.abc] w' h (by simp))
  have HLO := Lib.hid (fun (w' : World) (hb : Below w.heap.size w w') => load_own ((Blok.log [Blok.made 1 Blok.abc, Blok.made 2 Blok.abc]).take 83) 2 w' (by rw [List.length_take]; omega) (HKK.out w' hb))
  rw [Blok.al1] at HP1
  rw [Blok.al2] at HP2
  rw [Blok.al3] at HP3
  rw [Blok.al4] at HP4
  rw [show Blok.used [Blok.made 1 Blok.abc, Blok.made 2 Blok.abc] = 84 from rfl] at HU
  rw [decide_eq_true (Blok.has_made Blok.alw (List.mem_cons_self))] at HH
  rw [Blok.al9] at HRI
  rw [Blok.al8] at HLO
  have HG1 := Lib.hid (fun v => HG.out v (Blok.scr 2 Blok.abc))
  have HG2 := Lib.hid (fun v => HG.out v (Blok.scr 1 Blok.abc))
  unfold BkGetSays at HG1 HG2
  rw [Blok.al5] at HG1
  rw [Blok.al6] at HG2
  unfold BkPutOwn at HP1 HP2 HP3 HP4
  unfold BkLoadOwn at HLO
  have hA : (Blok.scr 1 Blok.abc).length = 32 := Blok.scr_length _ _
  have hL := Blok.al7
  have h4 : (T (Blok.log [Blok.made 1 Blok.abc, Blok.made 2 Blok.abc])).extract 0 4 = T [102, 115, 98, 49] := by rw [extract_list]; rfl
  have h83 := extract_list (Blok.log [Blok.made 1 Blok.abc, Blok.made 2 Blok.abc]) 0 83
  rw [List.drop_zero, show 83 - 0 = 83 from rfl] at h83
  have i4 : (Blok.log [Blok.made 1 Blok.abc, Blok.made 2 Blok.abc])[4]? = some 1 := rfl
  have i5 : (Blok.log [Blok.made 1 Blok.abc, Blok.made 2 Blok.abc])[5]? = some 3 := rfl
  have HLB2 := Lib.hid (show [Blok.made 1 Blok.abc, Blok.made 2 Blok.abc].length = 2 from rfl)
  have HLB1 := Lib.hid (show [Blok.made 1 Blok.abc].length = 1 from rfl)
  clear HG hd
  generalize Blok.scr 1 Blok.abc = A at *
  generalize Blok.scr 2 Blok.abc = C at *
  generalize Blok.log [Blok.made 1 Blok.abc, Blok.made 2 Blok.abc] = L at *
  generalize L.take 83 = L83 at *
  generalize [Blok.made 1 Blok.abc, Blok.made 2 Blok.abc] = bs2 at *
  generalize [Blok.made 1 Blok.abc] = bs1 at *
  unfold Blok.abc Blok.abd at *
  go_enter Tryd.func9, Tryd.ntmps9
  go_wp2_with fail
  refine HN.out.mono ?_; rintro e w1 ⟨rfl, b1⟩
  have HB1 := Lib.hid b1
  clear b1
  go_wp2_with fail
  refine (HP1.out _ _ HB1.out (blks_nil _)).mono ?_; rintro e w2 ⟨v2, rfl, own2, b2⟩
  have HB2 := Lib.hid ((bnext HB1.out b2).alloc (bnext HB1.out b2).size (.cells #[.int .i64 2, v2] 24))
  have HX2 := Lib.hid (BoxSt.start (c := 2) own2)
  obtain ⟨a2, c2, rfl⟩ := own_slice own2
  have hg : w.heap.size ≤ w2.heap.size := (bnext HB1.out b2).size
  clear b2 own2
  go_upto_region 2 with fail
  generalize w2.heap.size = g at *
  generalize w2.alloc _ = W2 at *
  obtain ⟨r1, r2, r3, r4⟩ := HX2.out.reads
  go_wp2_with fail
  refine (HP2.out _ _ HB2.out HX2.out.blks).mono ?_; rintro e w3 ⟨v3, rfl, own3, b3⟩
  have hx := HX2.out.next b3
  obtain ⟨q1, q2, q3, q4⟩ := hx.reads
  obtain ⟨a3, c3, rfl⟩ := own_slice own3
  have HX3 := Lib.hid (hx.store (c' := 2) own3)
  have HB3 := Lib.hid (((bnext HB2.out b3).setCell (p := ⟨g, 0, none⟩) hg (.int .i64 2)).setCell (p := ⟨g, 1, none⟩) hg (.slice a3 bs1.length c3))
  clear hx b3 own3 r1 r2 r3 r4
  go_upto_region 3 with fail
  generalize (w3.setCell ⟨g, 0, none⟩ (.int .i64 2)).setCell ⟨g, 1, none⟩ (.slice a3 bs1.length c3) = W3 at *
  clear q1 q2 q3 q4
  obtain ⟨r1, r2, r3, r4⟩ := HX3.out.reads
  go_wp2_with fail
  refine (HP3.out _ _ HB3.out HX3.out.blks).mono ?_; rintro e w4 ⟨v4, rfl, own4, b4⟩
  have hx := HX3.out.next b4
  obtain ⟨q1, q2, q3, q4⟩ := hx.reads
  obtain ⟨a4, c4, rfl⟩ := own_slice own4
  have HX4 := Lib.hid (hx.store (c' := 2) own4)
  have HB4 := Lib.hid (((bnext HB3.out b4).setCell (p := ⟨g, 0, none⟩) hg (.int .i64 2)).setCell (p := ⟨g, 1, none⟩) hg (.slice a4 bs2.length c4))
  clear hx b4 own4 r1 r2 r3 r4
  go_upto_region 4 with fail
  generalize (w4.setCell ⟨g, 0, none⟩ (.int .i64 2)).setCell ⟨g, 1, none⟩ (.slice a4 bs2.length c4) = W4 at *
  clear q1 q2 q3 q4
  obtain ⟨r1, r2, r3, r4⟩ := HX4.out.reads
  go_wp2_with fail
  refine (HP4.out _ _ HB4.out HX4.out.blks).mono ?_; rintro e w5 ⟨v5, rfl, own5, b5⟩
  obtain ⟨a5, c5, rfl⟩ := own_slice own5
  have b5' := b5.alloc b5.size (.cells #[.int .i64 2, .slice a5 bs2.length c5] 24)
  have HX5 := Lib.hid (HX4.out.next b5')
  have HB5 := Lib.hid (bnext HB4.out b5')
  clear b5 b5' own5 r1 r2 r3 r4
  go_upto_region 5 with fail
  generalize w5.alloc (.cells #[.int .i64 2, .slice a5 bs2.length c5] 24) = W5 at *
  obtain ⟨r1, r2, r3, r4⟩ := HX5.out.reads
  go_wp2_with fail
  refine (HG1.out _ _ HB5.out HX5.out.blks).mono ?_; rintro e w6 ⟨rfl, b6⟩
  have HX6 := Lib.hid (HX5.out.next b6)
  have HB6 := Lib.hid (bnext HB5.out b6)
  clear b6 r1 r2 r3 r4
  obtain ⟨r1, r2, r3, r4⟩ := HX6.out.reads
  go_wp2_with fail
  refine (HG2.out _ _ HB6.out HX6.out.blks).mono ?_; rintro e w7 ⟨rfl, b7⟩
  have HX7 := Lib.hid (HX6.out.next b7)
  have HB7 := Lib.hid (bnext HB6.out b7)
  clear b7 r1 r2 r3 r4
  obtain ⟨r1, r2, r3, r4⟩ := HX7.out.reads
  go_wp2_with fail
  refine (HL.out _ _ HX7.out.blks).mono ?_; rintro e w8 ⟨rfl, b8⟩
  have HX8 := Lib.hid (HX7.out.next b8)
  have HB8 := Lib.hid (bnext HB7.out b8)
  clear b8 r1 r2 r3 r4
  obtain ⟨r1, r2, r3, r4⟩ := HX8.out.reads
  go_wp2_with fail
  refine (HLO.out _ HB8.out).mono ?_; rintro e w9 ⟨v9, rfl, own9, b9⟩
  obtain ⟨a9, c9, rfl⟩ := own_slice own9
  have hx9 := BoxSt.start (c := 2) own9
  have b9' := b9.alloc b9.size (.cells #[.int .i64 2, .slice a9 bs1.length c9] 24)
  have HX9 := Lib.hid (HX8.out.next b9')
  have HB9 := Lib.hid (bnext HB8.out b9')
  have HY9 := Lib.hid hx9
  clear b9 b9' own9 r1 r2 r3 r4 hx9
  go_upto_region 11 with fail
  generalize w9.heap.size = g9 at *
  generalize w9.alloc _ = W9 at *
  obtain ⟨r1, r2, r3, r4⟩ := HX9.out.reads
  obtain ⟨s1, s2, s3, s4⟩ := HY9.out.reads
  have j4 : ((T L)[4]'(by rw [T_size]; omega)).toNat = 1 := T_get i4 _
  have j5 : ((T L)[5]'(by rw [T_size]; omega)).toNat = 3 := T_get i5 _
  have hb1 := HLB1.out
  have hb2 := HLB2.out
  go_wp2_with fail
  have hx := HX9.out
  rw [hb2] at hx
  refine (HU.out _ _ hx.blks).mono ?_; rintro e w10 ⟨rfl, b10⟩
  have HX10 := Lib.hid (hx.next b10)
  have HB10 := Lib.hid (bnext HB9.out b10)
  clear b10 r1 r2 r3 r4 s1 s2 s3 s4 hx
  obtain ⟨r1, r2, r3, r4⟩ := HX10.out.reads
  go_wp2_with fail
  refine (HH.out _ _ HX10.out.blks).mono ?_; rintro e w11 ⟨rfl, b11⟩
  have HX11 := Lib.hid (HX10.out.next b11)
  have HB11 := Lib.hid (bnext HB10.out b11)
  clear b11 r1 r2 r3 r4
  obtain ⟨r1, r2, r3, r4⟩ := HX11.out.reads
  go_wp2_with fail
  refine (HRI.out _ _ HX11.out.blks).mono ?_; rintro e w12 ⟨rfl, b12⟩
  have HB12 := Lib.hid (bnext HB11.out b12)
  clear b12 r1 r2 r3 r4
  go_wp2_with fail
  go_ret
  exact ⟨rfl, HB12.out⟩
end Go.Proofs.YtpcieookddpkhaaDoor
