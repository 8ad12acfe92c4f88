/- PartsWords returns true, if partsAwake does. Conditions: bytealg.MaxLen holds a number. -/
import Derived.Test.YtfibaopngpfmjaaGreatDoorPxExp
import Derived.Test.YtfibaopngpfmjaaGreatDoorPxQuote
set_option linter.unusedVariables false
set_option linter.unusedSimpArgs false
namespace Go.Proofs.YtfibaopngpfmjaaGreatDoor
open Go.RowKit Go.Proofs
def endw : List UInt8 := [101, 110, 100]
theorem Lx.prog_eq (s : List UInt8) : T [101, 99, 104, 111, 32] ++ T (Lx.quote s) ++ T [32, 101, 110, 100] = T (Lx.prog [echo, s, endw]) := by
  have h1 : Lx.quote echo = [101, 99, 104, 111] := by decide
  have h2 : Lx.quote endw = [101, 110, 100] := by decide
  have h3 : Lx.prog [echo, s, endw] = [101, 99, 104, 111, 32] ++ Lx.quote s ++ [32, 101, 110, 100] := by
    show Lx.quote echo ++ (32 :: (Lx.quote s ++ (32 :: (Lx.quote endw ++ [])))) = _
    rw [h1, h2]
    simp
  rw [T_append, T_append, h3]
theorem marks_length (v : List UInt8) : (Lx.marks v).length = v.length := by simp [Lx.marks]
set_option maxRecDepth 100000 in
set_option maxHeartbeats 4000000 in
theorem words_any (m : Int) (s : List UInt8) (w : World) (hm : w.cell? ⟨0, 0, none⟩ = some (.int .i64 m))
    (haw : ∀ W : World, W.cell? ⟨0, 0, none⟩ = some (.int .i64 m) → Calls Tryz.prog 5 #[] W fun e w' => e = .returned (.bool true) ∧ Below W.heap.size W w') :
    Calls Tryz.prog 3 #[.string (T s)] w fun e w' => e = .returned (.bool true) ∧ Below w.heap.size w w' := by
  have hm0 : 0 < w.heap.size := block_lt_of_cell hm
  have hsz : (T s).size = s.length := T_size s
  have HA := Lib.hid haw
  have HM := Lib.hid hm
  clear haw
  by_cases hlong : 200 < s.length
  · have h1 : (200 : Int) < (s.length : Int) := by omega
    clear hm
    go_enter Tryz.func3, Tryz.ntmps3
    go_wp2_with fail
    have hm1 := HM.out
    (with_reducible refine (HA.out _ hm1).mono ?_); rintro e w1 ⟨rfl, b1⟩
    have HB := Lib.hid b1
    clear b1 hm1
    go_wp2_with fail
    go_ret
    exact ⟨rfl, HB.out⟩
  · have h1 : (s.length : Int) ≤ 200 := by omega
    have hql := Lx.quote_le s
    have HQ := Lib.hid (quote_any s m w (by omega) hm hm0)
    have HP := Lib.hid (fun (W : World) h => program_any m [s, endw] W (by simp) (by
      have h2 : Lx.quote endw = [101, 110, 100] := by decide
      have h3 : Lx.quote echo = [101, 99, 104, 111] := by decide
      show (Lx.quote echo ++ (32 :: (Lx.quote s ++ (32 :: (Lx.quote endw ++ []))))).length ≤ 10000
      rw [h2, h3]
      simp
      omega) h)
    rw [← Lx.prog_eq] at HP
    have HE := Lib.hid (fun (t : Tok) (W : World) h => expWord_any t W h)
    have hn1 : ¬ 9223372036854775807 < 5 + (Lx.quote s).length := by omega
    have hn2 : ¬ 9223372036854775807 < 5 + (Lx.quote s).length + 4 := by omega
    clear hm hql
    generalize Lx.quote s = q at *
    go_enter Tryz.func3, Tryz.ntmps3
    go_wp2_with fail
    (with_reducible refine HQ.out.mono ?_); rintro e w1 ⟨rfl, b1⟩
    have HB1 := Lib.hid b1
    have hm1 := (b1.cell (p := ⟨0, 0, none⟩) hm0).trans HM.out
    clear b1
    go_wp2_with fail
    refine (HP.out _ hm1).mono ?_; rintro e w2 ⟨l, p, cb, cc, k, wc, rfl, hci, hkey, b2⟩
    have HB2 := Lib.hid (bnext HB1.out b2)
    have hll : l.length = 3 := by have := congrArg List.length hkey; simpa using this
    obtain ⟨t, ht⟩ : ∃ t, l[1]? = some t := ⟨_, List.getElem?_eq_getElem (by omega)⟩
    have htk : t.key = Lx.key s := by
      have h2 : (l.map Tok.key)[1]? = some t.key := by rw [List.getElem?_map, ht]; rfl
      rw [hkey] at h2
      exact (Option.some.inj h2).symm
    have htx : t.text = s := congrArg (fun x => x.2.1) htk
    have htq : t.quoted = Lx.marks s := congrArg (fun x => x.2.2) htk
    obtain ⟨⟨c0, c1, c2, c3, c4, c5⟩, _, hk, hw⟩ := hci
    obtain ⟨t', ht', d0, d1, d2, d3, d4⟩ := hw 1 (by omega)
    obtain rfl : t' = t := Option.some.inj (ht'.symm.trans ht)
    rw [htx] at d1
    rw [htq] at d2
    rw [hll] at c3
    have HE1 := Lib.hid (HE.out ⟨1, 0, s, Lx.marks s⟩ w2 (marks_length s))
    have hmk : (T (Lx.marks s)).size = s.length := by rw [T_size, marks_length]
    clear b2 hm1 HB1 HQ HP hkey hll ht htk htx htq hk hw ht' HE
    generalize Lx.marks s = ms at *
    go_wp2_with fail
    (with_reducible refine HE1.out.mono ?_); rintro e w3 ⟨a, ac, b, bd, rfl, h0, h2, b3⟩
    have HB3 := Lib.hid (bnext HB2.out b3)
    have hm3 := (HB3.out.cell (p := ⟨0, 0, none⟩) hm0).trans HM.out
    clear b3 HB2 c0 c1 c2 c3 c4 c5 d0 d1 d2 d3 d4
    go_wp2_with fail
    (with_reducible refine (HA.out _ hm3).mono ?_); rintro e w4 ⟨rfl, b4⟩
    have HB4 := Lib.hid (bnext HB3.out b4)
    clear b4
    go_wp2_with fail
    go_ret
    exact ⟨rfl, HB4.out⟩
end Go.Proofs.YtfibaopngpfmjaaGreatDoor
