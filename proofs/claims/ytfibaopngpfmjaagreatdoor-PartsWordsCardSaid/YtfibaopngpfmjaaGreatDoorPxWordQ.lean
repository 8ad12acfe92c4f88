/- What the scanner's word does at a quoted word. Conditions: a program of at most 10000 bytes; behind the word its end or a blank. -/
import Derived.Test.YtfibaopngpfmjaaGreatDoorPxWord
import Derived.Lib.Repeat
set_option linter.unusedVariables false
set_option linter.unusedSimpArgs false
namespace Go.Proofs.YtfibaopngpfmjaaGreatDoor
open Go.RowKit Go.Proofs
/-- String() of a builder beside another, empty or not. -/
theorem bstr_two (B b : Nat) (v : Value) (l : List UInt8) (w : World) (h : BAt B b v (Lib.byteCells l) w) (h0 : l = [] → v = .slice none 0 0) (hBw : B ≤ w.heap.size) :
    Calls Tryz.prog 107 #[.pointer (some ⟨b, 0, none⟩)] w fun e w' => e = .returned (.string (T l)) ∧ (Frm b v.ownBlock w w' ∧ Below B w w') := by
  cases l with
  | nil =>
    have := h0 rfl
    subst this
    refine (bstr_nil B b w h).mono ?_
    rintro e w' ⟨rfl, rfl⟩
    exact ⟨rfl, ⟨Nat.le_refl _, fun _ _ _ _ => rfl⟩, Below.drew (Below.refl B w)⟩
  | cons c r => exact bstr_at B b v (c :: r) w h (by simp) hBw
theorem Lx.ord_quote (r : List UInt8) : Lx.ord (39 :: r) = false := by
  show (!Lx.special 39 && !Go.Lib.hasPrefix (39 :: r) [92, 10]) = false
  rw [show Lx.special 39 = true from by decide]
  rfl
theorem repeat_one (n : Nat) : Lib.repeatL [49] n = List.replicate n 49 := by
  induction n with
  | zero => rfl
  | succ n ih => simp [Lib.repeatL, List.replicate_succ, ih] at *
theorem repeat_calls (n : Nat) (hn : n ≤ 100000) (W : World) : Calls Tryz.prog 108 #[.string (T [49]), .int .i64 (n : Int)] W fun e w' => e = .returned (.string (T (List.replicate n 49))) ∧ Below W.heap.size W w' := by
  have := strings_Repeat (T [49]) n W (by omega) (by rw [T_size]; simp; omega)
  rw [T_list, repeat_one] at this
  exact this
set_option maxRecDepth 100000 in
set_option maxHeartbeats 4000000 in
theorem word_quoted (g : Nat) (s v tl : List UInt8) (at_ en : Nat) (tv : Value) (w : World) (h : ScRow w g s at_ en tv) (ha : at_ ≤ s.length) (hs : s.length ≤ 10000) (hd : s.drop at_ = 39 :: (Lx.esc v ++ 39 :: tl)) (htl : Lx.stop tl) :
    Calls Tryz.prog 88 #[.pointer (some ⟨g, 0, none⟩)] w fun e w' => e = .returned (.tuple #[.string (T v), .string (T (List.replicate v.length 49)), .bool true]) ∧ ScRow w' g s (s.length - tl.length) en tv ∧ w.grownBy w' (some g) := by
  have hgl := row_ltP h
  have HF := Lib.hid (fresh2_new w)
  have HB := Lib.hid (show Below w.heap.size w ((w.alloc (.cells #[.pointer none, .slice none 0 0] 154)).alloc (.cells #[.pointer none, .slice none 0 0] 154)) from ((Below.refl w.heap.size w).alloc (Nat.le_refl _) _).alloc (by simp) _)
  have HG := Lib.hid (below_grownBy HB.out (some g))
  have HS := Lib.hid (h.belowB HB.out hgl)
  have hvl : v.length ≤ 10000 := by
    have e1 := congrArg List.length hd
    have e2 := le_esc v
    simp at e1
    omega
  have hdt : s.drop (s.length - tl.length) = tl := by
    have e1 : s.drop (at_ + (39 :: (Lx.esc v ++ [39])).length) = tl := drop_of s at_ (39 :: (Lx.esc v ++ [39])) tl (by rw [hd]; simp)
    have e2 := congrArg List.length hd
    have e3 : s.length - tl.length = at_ + (39 :: (Lx.esc v ++ [39])).length := by
      simp at e2 ⊢
      omega
    rw [e3]; exact e1
  have HO1 := Lib.hid (fun (W : World) (h : ScRow W g s at_ en tv) => ordinary_any g s at_ en tv W h ha hs)
  have HR1 := Lib.hid (fun (W : World) (h : ScRow W g s at_ en tv) => rest_any g s at_ en tv W h ha hs)
  have HO2 := Lib.hid (fun (W : World) (h : ScRow W g s (s.length - tl.length) en tv) => ordinary_any g s (s.length - tl.length) en tv W h (by omega) hs)
  have HR2 := Lib.hid (fun (W : World) (h : ScRow W g s (s.length - tl.length) en tv) => rest_any g s (s.length - tl.length) en tv W h (by omega) hs)
  rw [hdt, (Lx.stop_ord htl).1] at HO2
  rw [hdt] at HR2
  have HP2 := Lib.hid (fun (W : World) => hp_any tl [39] W)
  rw [(Lx.stop_ord htl).2] at HP2
  have HQ := Lib.hid (fun (W : World) (h : ScRow W g s at_ en tv) => quoted_any g s v tl at_ en tv W h hs hd (Lx.stop_ord htl).2)
  rw [hd] at HO1 HR1
  have HP1 := Lib.hid (fun (W : World) => hp_any (39 :: (Lx.esc v ++ 39 :: tl)) [39] W)
  rw [hasPrefix_cons, show ((39 : UInt8) == 39) = true from by decide] at HP1
  rw [Lx.ord_quote] at HO1
  generalize 39 :: (Lx.esc v ++ 39 :: tl) = rr at *
  clear h ha hs hd hdt htl
  generalize hat2 : s.length - tl.length = at2 at *
  go_enter Tryz.func88, Tryz.ntmps88
  go_wp2_with fail
  clear HB
  generalize World.alloc _ _ = w1 at *
  refine wp_loop_rounds 2 ?_
  rw [rounds_succ]
  go_wp2_with fail
  (with_reducible refine (HO1.out _ HS.out).mono ?_); rintro e w2 ⟨rfl, b2⟩
  have HS2 := Lib.hid (HS.out.next b2)
  have HG2 := Lib.hid (HG.out.trans (below_grownBy b2 (some g)))
  have HF2 := Lib.hid (HF.out.far (below_grownBy b2 (some g)) hgl)
  clear b2 HS HG HF HO1
  go_wp2_with fail
  (with_reducible refine (HR1.out _ HS2.out).mono ?_); rintro e w3 ⟨rfl, b3⟩
  have HS3 := Lib.hid (HS2.out.next b3)
  have HG3 := Lib.hid (HG2.out.trans (below_grownBy b3 (some g)))
  have HF3 := Lib.hid (HF2.out.far (below_grownBy b3 (some g)) hgl)
  clear b3 HS2 HG2 HF2 HR1
  go_wp2_with fail
  (with_reducible refine (HP1.out _).mono ?_); rintro e w4 ⟨rfl, rfl⟩
  go_wp2_with fail
  (with_reducible refine (HQ.out _ HS3.out).mono ?_); rintro e w5 ⟨rfl, hs5, g5⟩
  have HS5 := Lib.hid hs5
  have HG5 := Lib.hid (HG3.out.trans g5)
  have HF5 := Lib.hid (HF3.out.far g5 hgl)
  clear hs5 g5 HS3 HG3 HF3 HQ
  have HT1 := Lib.hid (ws_two w.heap.size w.heap.size (w.heap.size + 1) (.slice none 0 0) [] v w5 HF5.out.1 HF5.out.2.1 HF5.out.2.2 (by omega) HG5.out.size)
  go_wp2_with fail
  (with_reducible refine HT1.out.mono ?_); rintro e w6 ⟨rfl, ⟨v1, k1, k2, hne, hnil⟩, b6⟩
  have HS6 := Lib.hid (HS5.out.belowB b6 hgl)
  have HG6 := Lib.hid (grown_belowB HG5.out b6 (Nat.le_refl _))
  have HK := Lib.hid (And.intro k1 (And.intro k2 hnil))
  have HSZ : (T v).size = v.length := T_size v
  clear b6 HS5 HG5 HF5 HT1 k1 k2 hne hnil
  go_wp2_with fail
  (with_reducible refine (repeat_calls v.length (by omega) _).mono ?_); rintro e w7 ⟨rfl, b7⟩
  have HS7 := Lib.hid (HS6.out.next b7)
  have HG7 := Lib.hid (HG6.out.trans (below_grownBy b7 (some g)))
  have HK7 := Lib.hid (And.intro (HK.out.1.far (below_grownBy b7 (some g)) hgl) (And.intro (HK.out.2.1.far (below_grownBy b7 (some g)) hgl) HK.out.2.2))
  clear b7 HS6 HG6 HK
  have HT2 := Lib.hid (ws_two w.heap.size (w.heap.size + 1) w.heap.size v1 v (List.replicate v.length 49) w7 (by omega) HK7.out.2.1 HK7.out.1 (by rw [List.length_replicate]; omega) HG7.out.size)
  go_wp2_with fail
  (with_reducible refine HT2.out.mono ?_); rintro e w8 ⟨rfl, ⟨v2, k2, k1, hne, _⟩, b8⟩
  have HS8 := Lib.hid (HS7.out.belowB b8 hgl)
  have HG8 := Lib.hid (grown_belowB HG7.out b8 (Nat.le_refl _))
  have HK8 := Lib.hid (And.intro k1 (And.intro k2 (And.intro hne HK7.out.2.2)))
  clear b8 HS7 HG7 HT2 k1 k2 hne HK7
  go_wp2_with fail
  rw [rounds_succ]
  go_wp2_with fail
  (with_reducible refine (HO2.out _ HS8.out).mono ?_); rintro e w9 ⟨rfl, b9⟩
  have HS9 := Lib.hid (HS8.out.next b9)
  have HG9 := Lib.hid (HG8.out.trans (below_grownBy b9 (some g)))
  have HK9 := Lib.hid (And.intro (HK8.out.1.far (below_grownBy b9 (some g)) hgl) (And.intro (HK8.out.2.1.far (below_grownBy b9 (some g)) hgl) HK8.out.2.2))
  clear b9 HS8 HG8 HK8 HO2
  go_wp2_with fail
  (with_reducible refine (HR2.out _ HS9.out).mono ?_); rintro e wa ⟨rfl, ba⟩
  have HSa := Lib.hid (HS9.out.next ba)
  have HGa := Lib.hid (HG9.out.trans (below_grownBy ba (some g)))
  have HKa := Lib.hid (And.intro (HK9.out.1.far (below_grownBy ba (some g)) hgl) (And.intro (HK9.out.2.1.far (below_grownBy ba (some g)) hgl) HK9.out.2.2))
  clear ba HS9 HG9 HK9 HR2
  go_wp2_with fail
  (with_reducible refine (HP2.out _).mono ?_); rintro e wb ⟨rfl, rfl⟩
  have HSA := Lib.hid (bstr_two w.heap.size w.heap.size v1 v wb HKa.out.1 HKa.out.2.2.2 HGa.out.size)
  go_wp2_with fail
  (with_reducible refine HSA.out.mono ?_); rintro e wc ⟨rfl, hf, bc⟩
  have HSc := Lib.hid (HSa.out.belowB bc hgl)
  have HGc := Lib.hid (grown_belowB HGa.out bc (Nat.le_refl _))
  have hk2 : BAt w.heap.size (w.heap.size + 1) v2 (Lib.byteCells (List.replicate v.length 49)) wc := by
    obtain ⟨h1, h2, h3, _⟩ := HKa.out
    refine h2.frm hf (by omega) (fun e => h1.ne h2 e.symm) ?_ (h2.ne h1)
    rcases h3 with h3 | h3 | h3
    · exact .inl h3
    · rcases hx : v2.ownBlock with _ | k
      · exact .inl rfl
      · exact .inr (by rw [h3]; intro e; cases e)
    · exact .inr h3
  have HSB := Lib.hid (bstr_any w.heap.size (w.heap.size + 1) (List.replicate v.length 49) wc hk2.isB HGc.out.size)
  clear hf bc hk2
  go_wp2_with fail
  (with_reducible refine HSB.out.mono ?_); rintro e wd ⟨rfl, bd⟩
  have HSd := Lib.hid (HSc.out.belowB bd hgl)
  have HGd := Lib.hid (grown_belowB HGc.out bd (Nat.le_refl _))
  clear bd
  go_wp2_with fail
  go_ret3
  exact ⟨rfl, HSd.out, HGd.out⟩
end Go.Proofs.YtfibaopngpfmjaaGreatDoor
