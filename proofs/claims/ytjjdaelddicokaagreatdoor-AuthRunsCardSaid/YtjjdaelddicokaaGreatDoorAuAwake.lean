/- The laws' fixed examples hold: awake returns true. Conditions: the 64 constants in the variable. -/
import Derived.Test.YtjjdaelddicokaaGreatDoorAuLawKit
import Derived.Test.YtjjdaelddicokaaGreatDoorAuAwPure
import Derived.Test.YtjjdaelddicokaaGreatDoorAuRef2
set_option linter.unusedVariables false
set_option linter.unusedSimpArgs false
namespace Go.Proofs.YtjjdaelddicokaaGreatDoor
open Go.RowKit
open Au (Att Cnv)
theorem ex_fine {c : Cnv} (h : c.key.length ≤ 1000 ∧ (c.key.all fun a => decide (a.name.length ≤ 1000) && decide (a.value.length ≤ 1000)) = true ∧ c.own.length ≤ 1000 ∧ c.peer.length ≤ 1000) : Fine c := by
  refine ⟨h.1, fun j hj => ?_, h.2.2.1, h.2.2.2⟩
  have := List.all_eq_true.1 h.2.1 c.key[j] (List.getElem_mem hj)
  simp only [Bool.and_eq_true, decide_eq_true_eq] at this
  exact this
set_option maxRecDepth 100000 in
set_option maxHeartbeats 16000000 in
theorem awake_any (w : World) (hK : KIn w) :
    Calls Tryz.prog 7 #[] w fun e w' => e = .returned (.bool true) ∧ Below w.heap.size w w' := by
  have hc := Au.ex_c
  have hs := Au.ex_s
  have hv := Au.ex_w
  have hrd := Au.ex_read
  have hrn := Au.ex_run
  have hda := Au.ex_done.1
  have hdb := Au.ex_done.2
  have hrn2 := Au.ex_run2
  have hrx := Au.ex_end.1
  have hdx := Au.ex_end.2
  have fc : Fine Au.exC := ex_fine (by decide)
  have fs : Fine Au.exS := ex_fine (by decide)
  have fv : Fine Au.exW := ex_fine (by decide)
  have fx : Fine Au.exX := ex_fine (by decide)
  have sc : Au.exC.step = 0 := rfl
  have ss : Au.exS.step = 0 := rfl
  have sv : Au.exW.step = 0 := rfl
  have sx : Au.exX.step = 0 := rfl
  have pc : (Au.exC.phase != 1) = false := rfl
  have ps : (Au.exS.phase != 2) = false := rfl
  have px : (Au.exX.phase == 4) = true := rfl
  have ex : (Au.exX.err == 28) = true := rfl
  have kp : Au.exKey Au.exPw = lkey [97, 110, 110] [112, 119] := rfl
  have ko : Au.exKey Au.exOther = lkey [97, 110, 110] [111, 116, 104, 101, 114] := rfl
  have hpp : Au.sPlain = [112, 108, 97, 105, 110] := rfl
  have hzz : Au.zeros = [0, 0, 0, 0, 0, 0, 0, 0, 0, 0, 0, 0, 0, 0, 0, 0, 0, 0, 0, 0, 0, 0, 0, 0, 0, 0, 0, 0, 0, 0, 0, 0] := rfl
  rw [kp] at hc hs
  rw [ko] at hv
  rw [hpp, hzz] at hc hs hv
  clear kp ko hpp hzz
  generalize Au.exC = C at *
  generalize Au.exS = S at *
  generalize Au.exW = V at *
  generalize Au.exX = X at *
  generalize Au.exA = A at *
  generalize Au.exB = B at *
  generalize Au.exC1 = C1 at *
  have HST := Lib.hid (fun (role : Int) (sec : List UInt8) (hse : sec.length ≤ 1000) (R : Cnv) (h : Au.start [112, 108, 97, 105, 110] role (lkey [97, 110, 110] sec) [0, 0, 0, 0, 0, 0, 0, 0, 0, 0, 0, 0, 0, 0, 0, 0, 0, 0, 0, 0, 0, 0, 0, 0, 0, 0, 0, 0, 0, 0, 0, 0] = (R, 0)) (W : World) (v : Value) (hk : Atts W v (lkey [97, 110, 110] sec)) => start_bx [112, 108, 97, 105, 110] role v (lkey [97, 110, 110] sec) [0, 0, 0, 0, 0, 0, 0, 0, 0, 0, 0, 0, 0, 0, 0, 0, 0, 0, 0, 0, 0, 0, 0, 0, 0, 0, 0, 0, 0, 0, 0, 0] R 0 h W hk (by show 2 ≤ 1000; decide) (fun j hj => by
    match j, hj with
    | 0, _ => exact ⟨by show 4 ≤ 1000; decide, by show 3 ≤ 1000; decide⟩
    | 1, _ => exact ⟨by show 7 ≤ 1000; decide, hse⟩) (by decide))
  have HKI := Lib.hid (fun (W : World) (h : Below w.heap.size w W) => hK.below h)
  have HC := Lib.hid (HST.out 1 [112, 119] (by decide) C hc)
  have HS := Lib.hid (HST.out 2 [112, 119] (by decide) S hs)
  have HV := Lib.hid (HST.out 2 [111, 116, 104, 101, 114] (by decide) V hv)
  have HRD := Lib.hid (fun ao m cp (W : World) (h : Atts W (.slice ao m cp) C.key) (hk : KIn W) => read_bx C C1 _ _ hrd ao m cp W h fc (by omega) hk)
  have HRN := Lib.hid (fun ao bo m cp n dp (W : World) (h : Atts W (.slice ao m cp) C.key) (h2 : Atts W (.slice bo n dp) S.key) (hk : KIn W) => run_bx C S A B _ hrn ao bo m cp n dp W h h2 fc fs (by omega) (by omega) hk)
  have HRM := Lib.hid (fun ao bo m cp n dp (W : World) (h : Atts W (.slice ao m cp) C.key) (h2 : Atts W (.slice bo n dp) V.key) (hk : KIn W) => run_bx C V C1 X _ hrn2 ao bo m cp n dp W h h2 fc fv (by omega) (by omega) hk)
  have HRX := Lib.hid (fun ao m cp (W : World) (h : Atts W (.slice ao m cp) X.key) (hk : KIn W) => read_bx X X _ _ hrx ao m cp W h fx (by omega) hk)
  have HDA := Lib.hid (fun ao m cp (W : World) => done_bx A _ _ hda ao m cp W)
  have HDB := Lib.hid (fun ao m cp (W : World) => done_bx B _ _ hdb ao m cp W)
  have HDX := Lib.hid (fun ao m cp (W : World) => done_bx X _ _ hdx ao m cp W)
  clear hc hs hv hrd hrn hda hdb hrn2 hrx hdx fc fs fv fx sc ss sv sx hK HST
  go_enter Tryz.func7, Tryz.ntmps7
  go_wp2_with fail
  (with_reducible refine (key_any [97, 110, 110] [112, 119] _).mono ?_); rintro e v1 ⟨rfl, hka, hkb⟩
  have HBW2 := Lib.hid (hkb)
  clear hkb
  have HKA := Lib.hid hka
  clear hka
  go_wp2_with fail
  (with_reducible refine (HC.out _ _ HKA.out).mono ?_); rintro e v3 ⟨ca, cn, cc, rfl, hta, hbl⟩
  have HBW4 := Lib.hid (hbl)
  clear hbl
  have HTA := Lib.hid hta
  clear hta HKA
  go_upto_region 2 with fail
  have HX5 := Lib.hid (bx_new (c := C) HTA.out)
  have HBV5 := Lib.hid ((Below.refl v3.heap.size v3).alloc (Nat.le_refl _) (.cells #[.int .i64 C.id, .string (T C.proto), .int .i64 C.role, .int .i64 C.phase, .int .i64 C.step, (.slice ca cn cc), .string (T C.own), .string (T C.peer), .string (T C.user), .int .i64 C.err] 25))
  clear HTA
  generalize World.alloc _ _ = V5 at *
  go_wp2_with fail
  (with_reducible refine (key_any [97, 110, 110] [112, 119] _).mono ?_); rintro e v6 ⟨rfl, hka, hkb⟩
  have HBW7 := Lib.hid (hkb)
  clear hkb
  have HKA := Lib.hid hka
  clear hka
  go_wp2_with fail
  (with_reducible refine (HS.out _ _ HKA.out).mono ?_); rintro e v8 ⟨sa, sn, sc, rfl, hta, hbl⟩
  have HBW9 := Lib.hid (hbl)
  clear hbl
  have HTA := Lib.hid hta
  clear hta HKA
  go_upto_region 3 with fail
  have HX10 := Lib.hid (bx_new (c := S) HTA.out)
  have HBV10 := Lib.hid ((Below.refl v8.heap.size v8).alloc (Nat.le_refl _) (.cells #[.int .i64 S.id, .string (T S.proto), .int .i64 S.role, .int .i64 S.phase, .int .i64 S.step, (.slice sa sn sc), .string (T S.own), .string (T S.peer), .string (T S.user), .int .i64 S.err] 25))
  clear HTA
  generalize World.alloc _ _ = V10 at *
  go_wp2_with fail
  (with_reducible refine (key_any [97, 110, 110] [111, 116, 104, 101, 114] _).mono ?_); rintro e v11 ⟨rfl, hka, hkb⟩
  have HBW12 := Lib.hid (hkb)
  clear hkb
  have HKA := Lib.hid hka
  clear hka
  go_wp2_with fail
  (with_reducible refine (HV.out _ _ HKA.out).mono ?_); rintro e v13 ⟨va, vn, vc, rfl, hta, hbl⟩
  have HBW14 := Lib.hid (hbl)
  clear hbl
  have HTA := Lib.hid hta
  clear hta HKA
  go_upto_region 4 with fail
  have HX15 := Lib.hid (bx_new (c := V) HTA.out)
  have HBV15 := Lib.hid ((Below.refl v13.heap.size v13).alloc (Nat.le_refl _) (.cells #[.int .i64 V.id, .string (T V.proto), .int .i64 V.role, .int .i64 V.phase, .int .i64 V.step, (.slice va vn vc), .string (T V.own), .string (T V.peer), .string (T V.user), .int .i64 V.err] 25))
  clear HTA
  generalize World.alloc _ _ = V15 at *
  obtain ⟨⟨x0, x1, x2, x3, x4, x5, x6, x7, x8, x9⟩, _⟩ := cv_reads (Bx.row (HX5.out.next (bnext (bnext (bnext (bnext (bnext HBW7.out HBW9.out) HBV10.out) HBW12.out) HBW14.out) HBV15.out)))
  obtain ⟨⟨y0, y1, y2, y3, y4, y5, y6, y7, y8, y9⟩, _⟩ := cv_reads (Bx.row (HX10.out.next (bnext (bnext HBW12.out HBW14.out) HBV15.out)))
  go_upto_region 6 with fail
  clear x0 x1 x2 x3 x4 x5 x6 x7 x8 x9 y0 y1 y2 y3 y4 y5 y6 y7 y8 y9
  obtain ⟨⟨x0, x1, x2, x3, x4, x5, x6, x7, x8, x9⟩, _⟩ := cv_reads (Bx.row (HX5.out.next (bnext (bnext (bnext (bnext (bnext HBW7.out HBW9.out) HBV10.out) HBW12.out) HBW14.out) HBV15.out)))
  go_wp2_with fail
  (with_reducible refine (HRD.out _ _ _ _ (Bx.att (HX5.out.next (bnext (bnext (bnext (bnext (bnext HBW7.out HBW9.out) HBV10.out) HBW12.out) HBW14.out) HBV15.out))) (HKI.out _ (bnext (bnext (bnext (bnext (bnext (bnext (bnext (bnext HBW2.out HBW4.out) HBV5.out) HBW7.out) HBW9.out) HBV10.out) HBW12.out) HBW14.out) HBV15.out))).mono ?_); rintro e v16 ⟨r1, r2, r3, rfl, hta, hbl⟩
  clear x0 x1 x2 x3 x4 x5 x6 x7 x8 x9
  have HBW17 := Lib.hid (hbl)
  clear hbl
  have HTA := Lib.hid hta
  clear hta
  go_upto_region 7 with fail
  have HX18 := Lib.hid (bx_new (c := C1) HTA.out)
  have HBV18 := Lib.hid ((Below.refl v16.heap.size v16).alloc (Nat.le_refl _) (.cells #[.int .i64 C1.id, .string (T C1.proto), .int .i64 C1.role, .int .i64 C1.phase, .int .i64 C1.step, (.slice r1 r2 r3), .string (T C1.own), .string (T C1.peer), .string (T C1.user), .int .i64 C1.err] 25))
  clear HTA
  generalize World.alloc _ _ = V18 at *
  obtain ⟨⟨x0, x1, x2, x3, x4, x5, x6, x7, x8, x9⟩, _⟩ := cv_reads (Bx.row (HX5.out.next (bnext (bnext (bnext (bnext (bnext (bnext (bnext HBW7.out HBW9.out) HBV10.out) HBW12.out) HBW14.out) HBV15.out) HBW17.out) HBV18.out)))
  obtain ⟨⟨y0, y1, y2, y3, y4, y5, y6, y7, y8, y9⟩, _⟩ := cv_reads (Bx.row (HX10.out.next (bnext (bnext (bnext (bnext HBW12.out HBW14.out) HBV15.out) HBW17.out) HBV18.out)))
  go_wp2_with fail
  (with_reducible refine (HRN.out _ _ _ _ _ _ _ (Bx.att (HX5.out.next (bnext (bnext (bnext (bnext (bnext (bnext (bnext HBW7.out HBW9.out) HBV10.out) HBW12.out) HBW14.out) HBV15.out) HBW17.out) HBV18.out))) (Bx.att (HX10.out.next (bnext (bnext (bnext (bnext HBW12.out HBW14.out) HBV15.out) HBW17.out) HBV18.out))) (HKI.out _ (bnext (bnext (bnext (bnext (bnext (bnext (bnext (bnext (bnext (bnext HBW2.out HBW4.out) HBV5.out) HBW7.out) HBW9.out) HBV10.out) HBW12.out) HBW14.out) HBV15.out) HBW17.out) HBV18.out))).mono ?_); rintro e v19 ⟨a1, a2, a3, b1, b2, b3, rfl, hta, htb, hbl⟩
  clear x0 x1 x2 x3 x4 x5 x6 x7 x8 x9 y0 y1 y2 y3 y4 y5 y6 y7 y8 y9
  have HBW20 := Lib.hid (hbl)
  clear hbl
  have HTA := Lib.hid hta
  have HTB := Lib.hid htb
  clear hta htb
  go_upto_region 8 with fail
  have hx21 := bx_two (A := A) (B := B) HTA.out HTB.out
  generalize World.alloc _ _ = V21 at *
  have HX21 := Lib.hid hx21.1
  have HY21 := Lib.hid hx21.2.1
  have HBV21 := Lib.hid hx21.2.2
  clear hx21 HTA HTB
  obtain ⟨⟨x0, x1, x2, x3, x4, x5, x6, x7, x8, x9⟩, _⟩ := cv_reads (Bx.row (HX21.out.next (Below.refl _ _)))
  go_wp2_with fail
  (with_reducible refine (HDA.out _ _ _ _).mono ?_); rintro e v22 ⟨rfl, hbl⟩
  clear x0 x1 x2 x3 x4 x5 x6 x7 x8 x9
  have HBW23 := Lib.hid (hbl)
  clear hbl
  go_upto_region 9 with fail
  obtain ⟨⟨x0, x1, x2, x3, x4, x5, x6, x7, x8, x9⟩, _⟩ := cv_reads (Bx.row (HY21.out.next HBW23.out))
  go_wp2_with fail
  (with_reducible refine (HDB.out _ _ _ _).mono ?_); rintro e v24 ⟨rfl, hbl⟩
  clear x0 x1 x2 x3 x4 x5 x6 x7 x8 x9
  have HBW25 := Lib.hid (hbl)
  clear hbl
  go_upto_region 10 with fail
  obtain ⟨⟨x0, x1, x2, x3, x4, x5, x6, x7, x8, x9⟩, _⟩ := cv_reads (Bx.row (HX5.out.next (bnext (bnext (bnext (bnext (bnext (bnext (bnext (bnext (bnext (bnext (bnext HBW7.out HBW9.out) HBV10.out) HBW12.out) HBW14.out) HBV15.out) HBW17.out) HBV18.out) HBW20.out) HBV21.out) HBW23.out) HBW25.out)))
  obtain ⟨⟨y0, y1, y2, y3, y4, y5, y6, y7, y8, y9⟩, _⟩ := cv_reads (Bx.row (HX15.out.next (bnext (bnext (bnext (bnext (bnext HBW17.out HBV18.out) HBW20.out) HBV21.out) HBW23.out) HBW25.out)))
  go_wp2_with fail
  (with_reducible refine (HRM.out _ _ _ _ _ _ _ (Bx.att (HX5.out.next (bnext (bnext (bnext (bnext (bnext (bnext (bnext (bnext (bnext (bnext (bnext HBW7.out HBW9.out) HBV10.out) HBW12.out) HBW14.out) HBV15.out) HBW17.out) HBV18.out) HBW20.out) HBV21.out) HBW23.out) HBW25.out))) (Bx.att (HX15.out.next (bnext (bnext (bnext (bnext (bnext HBW17.out HBV18.out) HBW20.out) HBV21.out) HBW23.out) HBW25.out))) (HKI.out _ (bnext (bnext (bnext (bnext (bnext (bnext (bnext (bnext (bnext (bnext (bnext (bnext (bnext (bnext HBW2.out HBW4.out) HBV5.out) HBW7.out) HBW9.out) HBV10.out) HBW12.out) HBW14.out) HBV15.out) HBW17.out) HBV18.out) HBW20.out) HBV21.out) HBW23.out) HBW25.out))).mono ?_); rintro e v26 ⟨d1, d2, d3, q1, q2, q3, rfl, hta, htb, hbl⟩
  clear x0 x1 x2 x3 x4 x5 x6 x7 x8 x9 y0 y1 y2 y3 y4 y5 y6 y7 y8 y9
  have HBW27 := Lib.hid (hbl)
  clear hbl
  have HTA := Lib.hid hta
  have HTB := Lib.hid htb
  clear hta htb
  go_upto_region 11 with fail
  have hx28 := bx_two (A := C1) (B := X) HTA.out HTB.out
  generalize World.alloc _ _ = V28 at *
  have HX28 := Lib.hid hx28.1
  have HY28 := Lib.hid hx28.2.1
  have HBV28 := Lib.hid hx28.2.2
  clear hx28 HTA HTB
  obtain ⟨⟨x0, x1, x2, x3, x4, x5, x6, x7, x8, x9⟩, _⟩ := cv_reads (Bx.row (HY28.out.next (Below.refl _ _)))
  go_wp2_with fail
  (with_reducible refine (HRX.out _ _ _ _ (Bx.att (HY28.out.next (Below.refl _ _))) (HKI.out _ (bnext (bnext (bnext (bnext (bnext (bnext (bnext (bnext (bnext (bnext (bnext (bnext (bnext (bnext (bnext (bnext HBW2.out HBW4.out) HBV5.out) HBW7.out) HBW9.out) HBV10.out) HBW12.out) HBW14.out) HBV15.out) HBW17.out) HBV18.out) HBW20.out) HBV21.out) HBW23.out) HBW25.out) HBW27.out) HBV28.out))).mono ?_); rintro e v29 ⟨e1, e2, e3, rfl, hta, hbl⟩
  clear x0 x1 x2 x3 x4 x5 x6 x7 x8 x9
  have HBW30 := Lib.hid (hbl)
  clear hbl
  have HTA := Lib.hid hta
  clear hta
  go_upto_region 12 with fail
  have HX31 := Lib.hid (bx_new (c := X) HTA.out)
  have HBV31 := Lib.hid ((Below.refl v29.heap.size v29).alloc (Nat.le_refl _) (.cells #[.int .i64 X.id, .string (T X.proto), .int .i64 X.role, .int .i64 X.phase, .int .i64 X.step, (.slice e1 e2 e3), .string (T X.own), .string (T X.peer), .string (T X.user), .int .i64 X.err] 25))
  clear HTA
  generalize World.alloc _ _ = V31 at *
  obtain ⟨⟨x0, x1, x2, x3, x4, x5, x6, x7, x8, x9⟩, _⟩ := cv_reads (Bx.row (HY28.out.next (bnext HBW30.out HBV31.out)))
  go_wp2_with fail
  (with_reducible refine (HDX.out _ _ _ _).mono ?_); rintro e v32 ⟨rfl, hbl⟩
  clear x0 x1 x2 x3 x4 x5 x6 x7 x8 x9
  have HBW33 := Lib.hid (hbl)
  clear hbl
  go_upto_region 13 with fail
  obtain ⟨⟨x0, x1, x2, x3, x4, x5, x6, x7, x8, x9⟩, _⟩ := cv_reads (Bx.row (HY28.out.next (bnext (bnext HBW30.out HBV31.out) HBW33.out)))
  have HE := Lib.hid (bnext (bnext (bnext (bnext (bnext (bnext (bnext (bnext (bnext (bnext (bnext (bnext (bnext (bnext (bnext (bnext (bnext (bnext (bnext HBW2.out HBW4.out) HBV5.out) HBW7.out) HBW9.out) HBV10.out) HBW12.out) HBW14.out) HBV15.out) HBW17.out) HBV18.out) HBW20.out) HBV21.out) HBW23.out) HBW25.out) HBW27.out) HBV28.out) HBW30.out) HBV31.out) HBW33.out)
  go_wp2_with fail
  go_ret
  exact ⟨rfl, HE.out⟩
end Go.Proofs.YtjjdaelddicokaaGreatDoor
