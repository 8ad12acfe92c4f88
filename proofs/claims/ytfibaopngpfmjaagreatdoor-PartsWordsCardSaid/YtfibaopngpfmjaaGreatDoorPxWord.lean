/- What the scanner's word does. Conditions: a program of at most 10000 bytes; behind the word its end or a blank. -/
import Derived.Test.YtfibaopngpfmjaaGreatDoorPxStr
import Derived.OwnWalk
set_option linter.unusedVariables false
set_option linter.unusedSimpArgs false
namespace Go.Proofs.YtfibaopngpfmjaaGreatDoor
open Go.RowKit Go.Proofs
/-- What stands behind a word: the end, or a blank. -/
def Lx.stop (tl : List UInt8) : Prop := tl = [] ∨ ∃ t, tl = 32 :: t
theorem Lx.stop_ord {tl : List UInt8} (h : Lx.stop tl) : Lx.ord tl = false ∧ Go.Lib.hasPrefix tl [39] = false := by
  rcases h with rfl | ⟨t, rfl⟩
  · exact ⟨rfl, rfl⟩
  · refine ⟨?_, by rw [hasPrefix_cons]; rfl⟩
    show (!Lx.special 32 && !Go.Lib.hasPrefix (32 :: t) [92, 10]) = false
    rw [show Lx.special 32 = true from by decide]
    rfl
/-- Bytes that need no quotes. -/
def Lx.simple (v : List UInt8) : Prop := ∀ c ∈ v, Lx.special c = false ∧ c ≠ 92
theorem Lx.ord_of {c : UInt8} {r : List UInt8} (h : Lx.special c = false ∧ c ≠ 92) : Lx.ord (c :: r) = true := by
  show (!Lx.special c && !Go.Lib.hasPrefix (c :: r) [92, 10]) = true
  rw [h.1]
  have : Go.Lib.hasPrefix (c :: r) [92, 10] = false := by
    unfold Go.Lib.hasPrefix
    have e : ((92 : UInt8) == c) = false := by simpa using fun e => h.2 e.symm
    simp [List.isPrefixOf, e]
  rw [this]; rfl
def WS (w0 : World) (g B b1 b2 : Nat) (s v tl : List UInt8) (en : Nat) (tv : Value) (k : Nat) (W : World) : Prop :=
  ∃ u v' at', v = u ++ v' ∧ s.drop at' = v' ++ tl ∧ ScRow W g s at' en tv ∧ Two B b1 b2 u (List.replicate u.length 48) W ∧ w0.grownBy W (some g) ∧ B ≤ W.heap.size ∧ k = v'.length ∧ at' ≤ s.length
set_option maxRecDepth 100000 in
set_option maxHeartbeats 4000000 in
theorem word_plain (g : Nat) (s v tl : List UInt8) (at_ en : Nat) (tv : Value) (w : World) (h : ScRow w g s at_ en tv) (ha : at_ ≤ s.length) (hs : s.length ≤ 10000) (hd : s.drop at_ = v ++ tl) (hv : Lx.simple v) (hv0 : v ≠ []) (htl : Lx.stop tl) :
    Calls Tryz.prog 88 #[.pointer (some ⟨g, 0, none⟩)] w fun e w' => e = .returned (.tuple #[.string (T v), .string (T (List.replicate v.length 48)), .bool true]) ∧ ScRow w' g s (s.length - tl.length) en tv ∧ w.grownBy w' (some g) := by
  have hgl := row_ltP h
  have HF := Lib.hid (fresh2_new w).two
  have HB := Lib.hid (show Below w.heap.size w ((w.alloc (.cells #[.pointer none, .slice none 0 0] 154)).alloc (.cells #[.pointer none, .slice none 0 0] 154)) from ((Below.refl w.heap.size w).alloc (Nat.le_refl _) _).alloc (by simp) _)
  have HG := Lib.hid (below_grownBy HB.out (some g))
  have HS := Lib.hid (h.belowB HB.out hgl)
  have A := Lib.hid (And.intro ha (And.intro hs (And.intro hd (And.intro hv htl))))
  clear h ha hs hd hv htl
  go_enter Tryz.func88, Tryz.ntmps88
  go_wp2_with fail
  clear HB
  generalize World.alloc _ _ = w1 at *
  go_loopg [] v.length (fun k W => WS w g w.heap.size w.heap.size (w.heap.size + 1) s v tl en tv k W)
  case atStart =>
    exact ⟨[], v, at_, rfl, A.out.2.2.1, HS.out, HF.out, HG.out, HG.out.size, rfl, A.out.1⟩
  case round =>
    obtain ⟨u, v', at', hv, hd, hsr, htw, hgr, hbs, hk, hle⟩ := hrel
    have hs := A.out.2.1
    have HR := Lib.hid (rest_any g s at' en tv wr hsr hle hs)
    have HO := Lib.hid (ordinary_any g s at' en tv wr hsr hle hs)
    rw [hd] at HR HO
    have HV := Lib.hid (And.intro hv (And.intro hd hk))
    have HSR := Lib.hid hsr
    have HTW := Lib.hid htw
    have HGR := Lib.hid hgr
    have hul : u.length ≤ 10000 := by
      have e1 := congrArg List.length A.out.2.2.1
      rw [List.length_drop, hv] at e1
      simp at e1
      omega
    clear hv hd hk hsr htw hgr hs
    cases v' with
    | nil =>
      have hot : Lx.ord ([] ++ tl) = false := (Lx.stop_ord A.out.2.2.2.2).1
      rw [hot] at HO
      have hqt : Go.Lib.hasPrefix tl [39] = false := (Lx.stop_ord A.out.2.2.2.2).2
      have HPX := Lib.hid (fun (W : World) => hp_any tl [39] W)
      rw [hqt] at HPX
      have HR' := Lib.hid (fun (W : World) (h : ScRow W g s at' en tv) => rest_any g s at' en tv W h hle A.out.2.1)
      rw [HV.out.2.1, List.nil_append] at HR'
      clear hot hqt HR
      go_wp2_with fail
      (with_reducible refine HO.out.mono ?_); rintro e w2 ⟨rfl, b2⟩
      have HS2 := Lib.hid (HSR.out.next b2)
      have HG2 := Lib.hid (HGR.out.trans (below_grownBy b2 (some g)))
      have HT2 := Lib.hid (HTW.out.far (below_grownBy b2 (some g)) hgl)
      clear b2
      go_wp2_with fail
      (with_reducible refine (HR'.out _ HS2.out).mono ?_); rintro e w3 ⟨rfl, b3⟩
      have HS3 := Lib.hid (HS2.out.next b3)
      have HG3 := Lib.hid (HG2.out.trans (below_grownBy b3 (some g)))
      have HT3 := Lib.hid (HT2.out.far (below_grownBy b3 (some g)) hgl)
      clear b3
      go_wp2_with fail
      (with_reducible refine (HPX.out _).mono ?_); rintro e w4 ⟨rfl, rfl⟩
      obtain ⟨hv, hd, hk⟩ := HV.out
      have huv : u = v := by rw [hv]; simp
      have hu0 : u ≠ [] := by rw [huv]; exact hv0
      obtain ⟨hn12, v1, v2, h1, h2, h3⟩ := HT3.out
      have HN := Lib.hid (And.intro h1 (And.intro h2 h3))
      have HSA := Lib.hid (bstr_at w.heap.size w.heap.size v1 u w4 h1 hu0 HG3.out.size)
      have HE := Lib.hid huv
      clear h1 h2 h3 hv hd hk huv hu0
      go_wp2_with fail
      (with_reducible refine HSA.out.mono ?_); rintro e w5 ⟨rfl, hf5, b5⟩
      have HS5 := Lib.hid (HS3.out.belowB b5 hgl)
      have HG5 := Lib.hid (grown_belowB HG3.out b5 (Nat.le_refl _))
      have hk2 : BAt w.heap.size (w.heap.size + 1) v2 (Lib.byteCells (List.replicate u.length 48)) w5 := by
        obtain ⟨h1, h2, h3⟩ := HN.out
        refine h2.frm hf5 (by omega) (fun e => h1.ne h2 e.symm) ?_ (h2.ne h1)
        rcases h3 with h3 | h3 | h3
        · rcases hx : v2.ownBlock with _ | k
          · exact .inl rfl
          · exact .inr (by rw [h3]; intro e; cases e)
        · exact .inl h3
        · exact .inr fun e => h3 e.symm
      have HSB := Lib.hid (bstr_any w.heap.size (w.heap.size + 1) (List.replicate u.length 48) w5 hk2.isB HG5.out.size)
      clear hf5 b5 hk2
      go_wp2_with fail
      (with_reducible refine HSB.out.mono ?_); rintro e w6 ⟨rfl, b6⟩
      have HS6 := Lib.hid (HS5.out.belowB b6 hgl)
      have HG6 := Lib.hid (grown_belowB HG5.out b6 (Nat.le_refl _))
      clear b6
      go_wp2_with fail
      go_ret3
      refine ⟨by rw [← HE.out]; rfl, ?_, HG6.out⟩
      have e1 : s.length - tl.length = at' := by
        have := congrArg List.length HV.out.2.1
        rw [List.length_drop] at this
        simp at this
        omega
      rw [e1]
      exact HS6.out
    | cons c r =>
      have hcs := A.out.2.2.2.1 c (by rw [HV.out.1]; simp)
      have hot : Lx.ord (c :: r ++ tl) = true := Lx.ord_of hcs
      rw [hot] at HO
      have hal : at' + 1 ≤ s.length := by
        have := congrArg List.length HV.out.2.1
        simp at this
        omega
      have hc1 : (at' : Int) + 1 ≤ (s.length : Int) := by omega
      have hc2 : (s.length : Int) ≤ 10000 := by have := A.out.2.1; omega
      have hc3 : (at' : Int) < ((T s).size : Int) := by rw [T_size]; omega
      have hc4 : (0 : Int) ≤ (at' : Int) := by omega
      have hsz : (T s).size = s.length := T_size s
      have hc5 : (at' : Int) < (s.length : Int) := by omega
      have hgg : ∀ h, (T s)[at']'h = c := by
        intro h
        have e1 : s[at']? = some c := by
          have := congrArg (fun l => l[0]?) HV.out.2.1
          simpa using this
        have e2 : at' < s.length := by omega
        have e3 : s[at'] = c := by rw [List.getElem?_eq_getElem e2] at e1; exact Option.some.inj e1
        rw [← e3]; rfl
      clear hcs hot
      go_wp2_with fail
      (with_reducible refine HO.out.mono ?_); rintro e w2 ⟨rfl, b2⟩
      have HS2 := Lib.hid (HSR.out.next b2)
      have HG2 := Lib.hid (HGR.out.trans (below_grownBy b2 (some g)))
      have HT2 := Lib.hid (HTW.out.far (below_grownBy b2 (some g)) hgl)
      clear b2
      obtain ⟨⟨c0, c1, _⟩, f1, _⟩ := HS2.out.reads
      go_wp2_with fail
      have HSD := Lib.hid (HS2.out.next (below_drew1 w2))
      have HGD := Lib.hid (HG2.out.trans (below_grownBy (below_drew1 w2) (some g)))
      have HTD := Lib.hid (HT2.out.far (below_grownBy (below_drew1 w2) (some g)) hgl)
      have hBD : w.heap.size ≤ w2.drew.heap.size := HG2.out.size
      have HWB := Lib.hid (wb_two w.heap.size w.heap.size (w.heap.size + 1) u (List.replicate u.length 48) c (c.toNat : Int) rfl w2.drew HTD.out (by omega) hBD)
      go_region_held3 (fun W' => W'.cell? ⟨g, 0, none⟩ = some (.string (T s)) ∧ W'.cell? ⟨g, 1, none⟩ = some (.int .i64 (at' : Int))) (first | (with_reducible assumption) | (exact ⟨c0, c1⟩) | (exact ⟨cell_below hB4 hgl c0, cell_below hB4 hgl c1⟩)) (first | (go_at_call 151; (with_reducible refine HWB.out.mono ?_); rintro e w4 ⟨rfl, ht4, hB4⟩))
      have HS4 := Lib.hid (HSD.out.belowB hB4 hgl)
      have HG4 := Lib.hid (grown_belowB HGD.out hB4 (Nat.le_refl _))
      have hBw4 : w.heap.size ≤ w4.heap.size := HG4.out.size
      have HW5 := Lib.hid (wb_two w.heap.size (w.heap.size + 1) w.heap.size (List.replicate u.length 48) (u ++ [c]) 48 48 rfl w4 ht4.symm (by rw [List.length_replicate]; omega) hBw4)
      clear ht4 hB4 c0 c1 f1 HSD HGD HTD HS2 HG2 HT2 hBD HWB
      go_wp2_with fail
      (with_reducible refine HW5.out.mono ?_); rintro e w5 ⟨rfl, ht5, b5⟩
      have HS5 := Lib.hid (HS4.out.belowB b5 hgl)
      have HG5 := Lib.hid (grown_belowB HG4.out b5 (Nat.le_refl _))
      have HT5 := Lib.hid ht5.symm
      clear ht5 b5 HW5 HS4 HG4
      obtain ⟨⟨c0, c1, _⟩, f1, _⟩ := HS5.out.reads
      have hw1 : IntKind.i64.wrap ((at' : Int) + 1) = (at' : Int) + 1 := IntWalk.i64_in _ (by omega)
      go_wp2_with fail
      obtain ⟨hv, hd, hk⟩ := HV.out
      go_roundg (r.length)
      case measure => rw [hk]; simp
      case rel =>
        refine ⟨u ++ [c], r, at' + 1, ?_, ?_, ?_, ?_, ?_, ?_, rfl, hal⟩
        · rw [hv]; simp
        · exact drop_of s at' [c] _ hd
        · exact HS5.out.setAt (at' + 1)
        · have := HT5.out.far (grown_setG (below_grownBy (Below.refl w5.heap.size w5) (some g)) 1 (.int .i64 ((at' : Int) + 1))) hgl
          rw [show (u ++ [c]).length = u.length + 1 from by simp, List.replicate_succ']
          exact this
        · exact grown_setG HG5.out 1 _
        · simpa using HG5.out.size
end Go.Proofs.YtfibaopngpfmjaaGreatDoor
