/- What the scanner's quoted does at a quoted word. Conditions: a program of at most 10000 bytes; behind the word no quote. -/
import Derived.Test.YtfibaopngpfmjaaGreatDoorPxB
import Derived.Deep.LoopGhost
import Derived.Deep.RegionHeld3
set_option linter.unusedVariables false
set_option linter.unusedSimpArgs false
namespace Go.Proofs.YtfibaopngpfmjaaGreatDoor
open Go.RowKit
/-- The state ahead of a round: 'u' is written, 'v'' is to come. -/
def QS (w0 : World) (g B : Nat) (s v tl : List UInt8) (en : Nat) (tv : Value) (k : Nat) (W : World) : Prop :=
  ∃ u v' at', v = u ++ v' ∧ s.drop at' = Lx.esc v' ++ 39 :: tl ∧ ScRow W g s at' en tv ∧ IsB B B u W ∧ w0.grownBy W (some g) ∧ B ≤ W.heap.size ∧ k = s.length - at' ∧ at' ≤ s.length
theorem slice_T (s : List UInt8) (a n : Nat) (r p : List UInt8) (h : s.drop a = p ++ r) (hn : n = a + p.length) : (T s).extract a n = T p := by
  rw [extract_TP, T_list, h, hn, show a + p.length - a = p.length from by omega, List.take_left]
theorem drop_of (s : List UInt8) (a : Nat) (p r : List UInt8) (h : s.drop a = p ++ r) : s.drop (a + p.length) = r := by
  rw [← List.drop_drop, h, List.drop_left]
theorem drop_len (s : List UInt8) (a : Nat) (p r : List UInt8) (h : s.drop a = p ++ r) (hr : 0 < (p ++ r).length) : a + p.length + r.length = s.length := by
  have := congrArg List.length h
  rw [List.length_drop, List.length_append] at this
  rw [List.length_append] at hr
  omega
theorem le_esc : ∀ (s : List UInt8), s.length ≤ (Lx.esc s).length
  | [] => by simp [Lx.esc]
  | c :: s => by
    have := le_esc s
    rw [Lx.esc]
    split <;> simp <;> omega
theorem below_drew1 (w : World) : Below w.heap.size w w.drew := ⟨rfl, rfl, rfl, Nat.le_refl _, fun _ _ => rfl⟩
theorem cell_below {w w' : World} {B p o : Nat} {v : Value} (hb : Below B w w') (hp : p < B) (h : w.cell? ⟨p, o, none⟩ = some v) : w'.cell? ⟨p, o, none⟩ = some v := by
  have := hb.block p hp
  unfold World.cell? at h ⊢
  rw [this]
  exact h
theorem quote_split (v tl : List UInt8) : ∃ p r, Lx.esc v ++ 39 :: tl = p ++ 39 :: r ∧ 39 ∉ p ∧ ((r = tl ∧ v = p) ∨ ∃ b, v = p ++ 39 :: b ∧ r = 39 :: (Lx.esc b ++ 39 :: tl)) := by
  rcases Lx.first_quote v with h | ⟨a, b, rfl, h⟩
  · exact ⟨v, tl, by rw [Lx.esc_none v h], h, .inl ⟨rfl, rfl⟩⟩
  · refine ⟨a, 39 :: (Lx.esc b ++ 39 :: tl), ?_, h, .inr ⟨b, rfl, rfl⟩⟩
    rw [Lx.esc_cut a b h]
    simp
theorem index_at (p r : List UInt8) (h : 39 ∉ p) (W : World) : Calls Tryz.prog 38 #[.string (T (p ++ 39 :: r)), .int .u8 39] W fun e w' => e = .returned (.int .i64 (p.length : Int)) ∧ w' = W := by
  have := strings_IndexByte (T (p ++ 39 :: r)) 39 W
  rw [T_list, show ((39 : Int)).toNat.toUInt8 = (39 : UInt8) from rfl, Lx.index_quote p r h] at this
  exact this
set_option maxRecDepth 100000 in
set_option maxHeartbeats 4000000 in
theorem quoted_any (g : Nat) (s v tl : List UInt8) (at_ en : Nat) (tv : Value) (w : World) (h : ScRow w g s at_ en tv) (hs : s.length ≤ 10000) (hd : s.drop at_ = 39 :: (Lx.esc v ++ 39 :: tl)) (htl : Go.Lib.hasPrefix tl [39] = false) :
    Calls Tryz.prog 152 #[.pointer (some ⟨g, 0, none⟩)] w fun e w' => e = .returned (.tuple #[.string (T v), .bool true]) ∧ ScRow w' g s (s.length - tl.length) en tv ∧ w.grownBy w' (some g) := by
  have hgl := row_ltP h
  have hal : at_ + 1 ≤ s.length := by
    have := congrArg List.length hd
    simp at this
    omega
  have hd2 : s.drop (at_ + 1) = Lx.esc v ++ 39 :: tl := drop_of s at_ [39] _ hd
  obtain ⟨⟨r0, r1, _⟩, f1, _⟩ := h.reads
  have hc1 : ((at_ + 1 : Nat) : Int) = (at_ : Int) + 1 := by omega
  have hset := h.setAt (at_ + 1)
  rw [hc1] at hset
  have i0 : (at_ : Int) ≤ 10000 := by omega
  have HS := Lib.hid hset
  have HG := Lib.hid (grown_setG (below_grownBy (Below.refl w.heap.size w) (some g)) 1 (.int .i64 ((at_ : Int) + 1)))
  have A := Lib.hid (And.intro hs (And.intro hd2 (And.intro htl hal)))
  clear h hs hd hd2 htl hset hal
  go_enter Tryz.func152, Tryz.ntmps152
  go_wp2_with fail
  have HI0 := Lib.hid (show IsB w.heap.size w.heap.size [] ((w.setCell ⟨g, 1, none⟩ (.int .i64 ((at_ : Int) + 1))).alloc (.cells #[.pointer none, .slice none 0 0] 154)) from by
    have := isb_new (w.setCell ⟨g, 1, none⟩ (.int .i64 ((at_ : Int) + 1)))
    simpa using this)
  have HB0 := Lib.hid (show Below w.heap.size (w.setCell ⟨g, 1, none⟩ (.int .i64 ((at_ : Int) + 1))) ((w.setCell ⟨g, 1, none⟩ (.int .i64 ((at_ : Int) + 1))).alloc (.cells #[.pointer none, .slice none 0 0] 154)) from by
    have := (Below.refl (w.setCell ⟨g, 1, none⟩ (.int .i64 ((at_ : Int) + 1))).heap.size (w.setCell ⟨g, 1, none⟩ (.int .i64 ((at_ : Int) + 1)))).alloc (Nat.le_refl _) (.cells #[.pointer none, .slice none 0 0] 154)
    simpa using this)
  have HG0 := Lib.hid (show w.grownBy ((w.setCell ⟨g, 1, none⟩ (.int .i64 ((at_ : Int) + 1))).alloc (.cells #[.pointer none, .slice none 0 0] 154)) (some g) from grown_belowB HG.out HB0.out (by simp))
  have HS0 := Lib.hid (HS.out.belowB HB0.out hgl)
  generalize World.alloc _ _ = w1 at *
  clear HB0 HS HG r0 r1 f1
  go_loopg [] (s.length - (at_ + 1)) (fun k W => QS w g w.heap.size s v tl en tv k W)
  case atStart =>
    exact ⟨[], v, at_ + 1, rfl, A.out.2.1, HS0.out, HI0.out, HG0.out, HG0.out.size, rfl, A.out.2.2.2⟩
  case round =>
    obtain ⟨u, v', at', hv, hd, hsr, hib, hgr, hbs, hk, hle⟩ := hrel
    obtain ⟨p, r, hpr, hp39, hcase⟩ := quote_split v' tl
    rw [hpr] at hd
    have hl1 : at' + p.length + 1 ≤ s.length := by
      have := congrArg List.length hd
      simp at this
      omega
    have hd1 : s.drop (at' + p.length) = 39 :: r := drop_of s at' p _ hd
    have hd2 : s.drop (at' + p.length + 1) = r := drop_of s (at' + p.length) [39] _ hd1
    have hs := A.out.1
    have HR := Lib.hid (rest_any g s at' en tv wr hsr hle hs)
    rw [hd] at HR
    have HIX := Lib.hid (fun (W : World) => index_at p r hp39 W)
    have hex := slice_T s at' (at' + p.length) (39 :: r) p hd rfl
    have HR2 := Lib.hid (fun (W : World) (h : ScRow W g s (at' + p.length + 1) en tv) => rest_any g s (at' + p.length + 1) en tv W h hl1 hs)
    rw [hd2] at HR2
    have HPX := Lib.hid (fun (W : World) => hp_any r [39] W)
    have hux : u.length + p.length ≤ 1099511627776 := by
      have e1 := congrArg List.length A.out.2.1
      have e2 := le_esc v
      rw [List.length_drop, List.length_append] at e1
      rw [hv, List.length_append] at e2
      rw [hv] at e1
      omega
    have hex2 : (T s).extract at' ((at' : Int) + (p.length : Int)).toNat = T p := by rw [← hex]; rfl
    have HUX := Lib.hid hux
    have HWS := Lib.hid (fun (W : World) (hi : IsB w.heap.size w.heap.size u W) (hB : w.heap.size ≤ W.heap.size) => show Calls Tryz.prog 105 #[.pointer (some ⟨w.heap.size, 0, none⟩), .string ((T s).extract at' ((at' : Int) + (p.length : Int)).toNat)] W fun e w' => e = .returned (.tuple #[.int .i64 (p.length : Int), .nilIface]) ∧ (IsB w.heap.size w.heap.size (u ++ p) w' ∧ Below w.heap.size W w') from by rw [hex2]; exact ws_any w.heap.size w.heap.size u p W hi hux hB)
    have HC := Lib.hid hcase
    have HSR := Lib.hid hsr
    have HIB := Lib.hid hib
    have HGR := Lib.hid hgr
    have HV := Lib.hid (And.intro hv (And.intro hk (And.intro hd (And.intro hd1 hd2))))
    have hb1 : (at' : Int) + (p.length : Int) + 1 ≤ (s.length : Int) := by omega
    have hsz : (T s).size = s.length := T_size s
    have hb2 : (s.length : Int) ≤ 10000 := by omega
    have hb3 : (at' : Int) + (p.length : Int) ≤ (s.length : Int) := by omega
    have hw1 : IntKind.i64.wrap ((at' : Int) + (p.length : Int)) = (at' : Int) + (p.length : Int) := IntWalk.i64_in _ (by omega)
    have hw2 : IntKind.i64.wrap ((p.length : Int) + 1) = (p.length : Int) + 1 := IntWalk.i64_in _ (by omega)
    have hw3 : IntKind.i64.wrap ((at' : Int) + ((p.length : Int) + 1)) = (at' : Int) + ((p.length : Int) + 1) := IntWalk.i64_in _ (by omega)
    have hb4 : (0 : Int) ≤ (at' : Int) := by omega
    have hb5 : (0 : Int) ≤ (at' : Int) + (p.length : Int) := by omega
    have hb6 : (at' : Int) ≤ (at' : Int) + (p.length : Int) := by omega
    have hb7 : (at' : Int) + (p.length : Int) ≤ ((T s).size : Int) := by rw [T_size]; exact hb3
    have hb8 : (at' : Int) ≤ ((T s).size : Int) := by rw [T_size]; omega
    clear hcase hsr hib hgr hv hk hd hd1 hd2 hpr hp39 hux hs hex hex2
    go_wp2_with fail
    (with_reducible refine HR.out.mono ?_); rintro e w2 ⟨rfl, b2⟩
    have HS2 := Lib.hid (HSR.out.next b2)
    have HG2 := Lib.hid (HGR.out.trans (below_grownBy b2 (some g)))
    have HI2 := Lib.hid (HIB.out.far (below_grownBy b2 (some g)) hgl)
    have hBw2 : w.heap.size ≤ w2.heap.size := HG2.out.size
    clear b2
    go_wp2_with fail
    (with_reducible refine (HIX.out _).mono ?_); rintro e w3 ⟨rfl, rfl⟩
    obtain ⟨⟨c0, c1, _⟩, f1, _⟩ := HS2.out.reads
    go_wp2_with fail
    have HSD := Lib.hid (HS2.out.next (below_drew1 w3))
    have HGD := Lib.hid (HG2.out.trans (below_grownBy (below_drew1 w3) (some g)))
    have HID := Lib.hid (HI2.out.far (below_grownBy (below_drew1 w3) (some g)) hgl)
    have hBD : w.heap.size ≤ w3.drew.heap.size := hBw2
    go_region_held3 (fun W' => W'.cell? ⟨g, 0, none⟩ = some (.string (T s)) ∧ W'.cell? ⟨g, 1, none⟩ = some (.int .i64 (at' : Int))) (first | (with_reducible assumption) | (exact ⟨c0, c1⟩) | (exact ⟨cell_below hB4 hgl c0, cell_below hB4 hgl c1⟩)) (first | (go_at_call 105; (with_reducible refine (HWS.out _ HID.out hBD).mono ?_); rintro e w4 ⟨rfl, hi4, hB4⟩))
    have HS4 := Lib.hid (HSD.out.belowB hB4 hgl)
    have HG4 := Lib.hid (grown_belowB HGD.out hB4 (Nat.le_refl _))
    have HI4 := Lib.hid hi4
    clear hi4 hB4 c0 c1 f1 HSD HGD HID HS2 HG2 HI2 hBw2 hBD HWS HR HIX
    clear HSR HIB HGR
    obtain ⟨⟨c0, c1, _⟩, f1, _⟩ := HS4.out.reads
    go_wp2_with fail
    have hset := HS4.out.setAt (at' + p.length + 1)
    rw [show ((at' + p.length + 1 : Nat) : Int) = (at' : Int) + ((p.length : Int) + 1) from by omega] at hset
    have HS5 := Lib.hid hset
    have HG5 := Lib.hid (grown_setG HG4.out 1 (.int .i64 ((at' : Int) + ((p.length : Int) + 1))))
    have HI5 := Lib.hid (HI4.out.far (grown_setG (below_grownBy (Below.refl w4.heap.size w4) (some g)) 1 (.int .i64 ((at' : Int) + ((p.length : Int) + 1)))) hgl)
    clear hset c0 c1 f1 HS4 HG4 HI4
    generalize World.setCell _ _ _ = w5 at *
    (with_reducible refine (HR2.out _ HS5.out).mono ?_); rintro e w6 ⟨rfl, b6⟩
    have HS6 := Lib.hid (HS5.out.next b6)
    have HG6 := Lib.hid (HG5.out.trans (below_grownBy b6 (some g)))
    have HI6 := Lib.hid (HI5.out.far (below_grownBy b6 (some g)) hgl)
    have hBw6 : w.heap.size ≤ w6.heap.size := HG6.out.size
    clear b6 HS5 HG5 HI5 HR2
    have HP7 : RowKit.Hid (((r = tl ∧ v' = p) ∧ Lib.hasPrefix r [39] = false) ∨ ((∃ b, v' = p ++ 39 :: b ∧ r = 39 :: (Lx.esc b ++ 39 :: tl)) ∧ Lib.hasPrefix r [39] = true)) := by
      apply Lib.hid
      rcases HC.out with ⟨h1, h2⟩ | ⟨b, h1, h2⟩
      · exact .inl ⟨⟨h1, h2⟩, by rw [h1]; exact A.out.2.2.1⟩
      · refine .inr ⟨⟨b, h1, h2⟩, ?_⟩
        rw [h2, hasPrefix_cons]; rfl
    clear HC
    rcases HP7.out with ⟨hc, hq⟩ | ⟨hc, hq⟩
    · have HC := Lib.hid hc
      rw [hq] at HPX
      clear hc hq HP7
      go_wp2_with fail
      (with_reducible refine (HPX.out _).mono ?_); rintro e w7 ⟨rfl, rfl⟩
      have HBS := Lib.hid (bstr_any w.heap.size w.heap.size (u ++ p) w7 HI6.out hBw6)
      go_wp2_with fail
      (with_reducible refine HBS.out.mono ?_); rintro e w8 ⟨rfl, b8⟩
      have HS8 := Lib.hid (HS6.out.belowB b8 hgl)
      have HG8 := Lib.hid (grown_belowB HG6.out b8 (Nat.le_refl _))
      clear b8
      go_wp2_with fail
      go_ret2
      obtain ⟨hv, hk, hd, hd1, hd2⟩ := HV.out
      obtain ⟨h1, h2⟩ := HC.out
      refine ⟨by rw [hv, h2]; rfl, ?_, HG8.out⟩
      have e1 : s.length - tl.length = at' + p.length + 1 := by
        have := congrArg List.length hd2
        rw [List.length_drop, h1] at this
        omega
      rw [e1]
      exact HS8.out
    · have HC := Lib.hid hc
      rw [hq] at HPX
      clear hc hq HP7
      go_wp2_with fail
      (with_reducible refine (HPX.out _).mono ?_); rintro e w7 ⟨rfl, rfl⟩
      go_wp2_with fail
      have hlen : (u ++ p).length ≤ 1099511627776 := by rw [List.length_append]; exact HUX.out
      (with_reducible refine (wb_any w.heap.size w.heap.size (u ++ p) 39 39 rfl w7 HI6.out hlen hBw6).mono ?_); rintro e w8 ⟨rfl, hi8, b8⟩
      have HS8 := Lib.hid (HS6.out.belowB b8 hgl)
      have HG8 := Lib.hid (grown_belowB HG6.out b8 (Nat.le_refl _))
      have HI8 := Lib.hid hi8
      obtain ⟨⟨c0, c1, _⟩, f1, _⟩ := HS8.out.reads
      obtain ⟨b, hvb, hrb⟩ := HC.out
      have hl2 : at' + p.length + 2 ≤ s.length := by
        have := congrArg List.length HV.out.2.2.2.2
        rw [List.length_drop, hrb] at this
        simp at this
        omega
      have c1' : w8.cell? ⟨g, 1, none⟩ = some (.int .i64 ((at' : Int) + ((p.length : Int) + 1))) := by
        rw [c1]; rfl
      have hw4 : IntKind.i64.wrap ((at' : Int) + ((p.length : Int) + 1) + 1) = (at' : Int) + ((p.length : Int) + 1) + 1 := IntWalk.i64_in _ (by omega)
      clear hi8 b8 c1 HS6 HG6 HI6 hBw6
      go_wp2_with fail
      obtain ⟨hv, hk, hd, hd1, hd2⟩ := HV.out
      go_roundg (s.length - (at' + p.length + 2))
      case measure => omega
      case rel =>
        refine ⟨u ++ p ++ [39], b, at' + p.length + 2, ?_, ?_, ?_, ?_, ?_, ?_, rfl, hl2⟩
        · rw [hv, hvb]; simp
        · exact drop_of s (at' + p.length + 1) [39] _ (hd2.trans hrb)
        · have := HS8.out.setAt (at' + p.length + 2)
          rw [show ((at' + p.length + 2 : Nat) : Int) = (at' : Int) + ((p.length : Int) + 1) + 1 from by omega] at this
          exact this
        · exact HI8.out.far (grown_setG (below_grownBy (Below.refl w8.heap.size w8) (some g)) 1 _) hgl
        · exact grown_setG HG8.out 1 _
        · simpa using HG8.out.size
end Go.Proofs.YtfibaopngpfmjaaGreatDoor
