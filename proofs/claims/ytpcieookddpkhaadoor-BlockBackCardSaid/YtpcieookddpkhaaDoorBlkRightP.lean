/- What block.Right returns: Blok.right. Conditions: the slice holds the given blocks; at most 10^6 of them. -/
import Derived.Test.YtpcieookddpkhaaDoorBlkRight
import Derived.Maps.OwnOps
import Derived.Maps.Views
set_option linter.unusedVariables false
set_option linter.unusedSimpArgs false
namespace Go.Proofs.YtpcieookddpkhaaDoor
open Go.RowKit Go.WideMaps Go.Maps
theorem blaw : Keyed Tryd.prog 9 := string_keyed Tryd.underlying9
theorem bzero (w : World) : (zeroValue 3).run Tryd.prog w = .ok (.int .i64 0) w := by kernel_rfl
namespace Blok
/-- The map of the scores seen: it tells, for each text, whether it is among the first ones' scores. -/
def Seen (D : DataW Unit) (l : List Blk) : Prop :=
  IsMap D ∧ ∀ x : List UInt8, ∃ c : Int, D.atKey (.string x) (.lit (.int .i64 0)) = .lit (.int .i64 c) ∧ 0 ≤ c ∧ c ≤ l.length ∧ (0 < c ↔ 0 ≤ idx x l)
theorem seen_start : Seen (.map []) [] := ⟨isMap_empty, fun x => ⟨0, rfl, Int.le_refl _, Int.le_refl _, by simp [idx]⟩⟩
theorem seen_put {D : DataW Unit} {l : List Blk} {b : Blk} {c : Int} (h : Seen D l) (hat : D.atKey (.string b.sc) (.lit (.int .i64 0)) = .lit (.int .i64 c)) :
    Seen (D.put (.string b.sc) (.lit (.int .i64 (c + 1)))) (l ++ [b]) := by
  refine ⟨h.1.put _ _, fun x => ?_⟩
  obtain ⟨c0, h1, h2, h3, h4⟩ := h.2 x
  have key : 0 ≤ idx x (l ++ [b]) ↔ 0 ≤ idx x l ∨ b.sc = x := by
    rw [idx_mem, idx_mem]
    constructor
    · rintro ⟨y, hy, hs⟩
      rcases List.mem_append.1 hy with hy | hy
      · exact .inl ⟨y, hy, hs⟩
      · rw [List.mem_singleton] at hy; subst hy; exact .inr hs
    · rintro (⟨y, hy, hs⟩ | hs)
      · exact ⟨y, List.mem_append.2 (.inl hy), hs⟩
      · exact ⟨b, by simp, hs⟩
  by_cases he : b.sc = x
  · subst he
    rw [h1] at hat
    injection hat with hat
    injection hat with _ hat
    subst hat
    refine ⟨c0 + 1, atKey_put_same h.1 (show WideAt.IsKeyLit (.string b.sc) from True.intro) _ _, by omega, by simp; omega, ?_⟩
    rw [key]
    simp; omega
  · refine ⟨c0, ?_, h2, by simp; omega, ?_⟩
    · rw [atKey_put_other (fun e => he (by injection e with e; exact e.symm))]; exact h1
    · rw [key, h4]; simp [he]
end Blok
set_option maxRecDepth 20000 in
set_option maxHeartbeats 2000000 in
theorem bright_any (c : Int) (v : Value) (bs : List Blk) (w : World) (hv : Blks w v bs) (hl : bs.length ≤ 1000000) :
    Calls Tryd.prog 14 #[.agg #[.int .i64 c, v]] w fun e w' => e = .returned (.bool (Blok.right c bs)) ∧ Below w.heap.size w w' := by
  have hmm := @run_makeMap Tryd.prog
  obtain ⟨ao, n, cp, rfl⟩ := hv.form
  obtain ⟨rfl, k1⟩ := hv.at
  have HB := Lib.hid (Below.refl w.heap.size w)
  have H1 := Lib.hid k1
  clear hv k1
  rcases Int.lt_or_le c 1 with hc1 | hc1
  · have HF := Lib.hid (Blok.right_no (c := c) (bs := bs) (fun h => by have := h.1; omega))
    go_enter Tryd.func14, Tryd.ntmps14
    go_wp2_with fail
    go_ret
    exact ⟨by rw [HF.out]; rfl, HB.out.alloc (Nat.le_refl _) _⟩
  rcases Int.lt_or_le 4096 c with hc2 | hc2
  · have HF := Lib.hid (Blok.right_no (c := c) (bs := bs) (fun h => by have := h.2.1; omega))
    go_enter Tryd.func14, Tryd.ntmps14
    go_wp2_with fail
    go_ret
    exact ⟨by rw [HF.out]; rfl, HB.out.alloc (Nat.le_refl _) _⟩
  rcases Int.lt_or_le c bs.length with hc3 | hc3
  · have HF := Lib.hid (Blok.right_no (c := c) (bs := bs) (fun h => by have := h.2.2.1; omega))
    go_enter Tryd.func14, Tryd.ntmps14
    go_wp2_with fail
    go_ret
    exact ⟨by rw [HF.out]; rfl, HB.out.alloc (Nat.le_refl _) _⟩
  have HOK := Lib.hid (fun h : ∀ i (h : i < bs.length), Blok.okAt bs i bs[i] => Blok.right_yes (c := c) (bs := bs) ⟨hc1, hc2, hc3, h⟩)
  have HM0 : Hid (((w.alloc (.cells #[.int .i64 c, .slice ao bs.length cp] 24)).alloc (.map #[] 0)).ownsMap Tryd.prog 9 (plainElem (H := Unit) Tryd.prog 3) (w.heap.size + 1) 0 (.map [])) := by
    have := World.ownsMap_made (H := Unit) (w.alloc (.cells #[.int .i64 c, .slice ao bs.length cp] 24)) Tryd.prog 9 (plainElem (H := Unit) Tryd.prog 3)
    have e : (w.alloc (.cells #[.int .i64 c, .slice ao bs.length cp] 24)).heap.size = w.heap.size + 1 := by simp
    rw [e] at this
    exact this
  go_enter Tryd.func14, Tryd.ntmps14
  go_wp2_with fail
  go_loopw [26] (fun i wr => ∃ (k : Nat) (D : DataW Unit), k ≤ bs.length ∧ i = .int .i64 (k : Int) ∧ Hid (∀ j (hj : j < k) (hk : k ≤ bs.length), Blok.okAt bs j (bs[j]'(by omega))) ∧ Hid (Blok.Seen D (bs.take k)) ∧ Hid (wr.ownsMap Tryd.prog 9 (plainElem Tryd.prog 3) (w.heap.size + 1) k D) ∧ Below w.heap.size w wr) (fun i _ => bs.length - (intOf i).toNat)
  case atStart => exact ⟨0, .map [], by omega, rfl, (fun j hj => by omega), Blok.seen_start, HM0.out, (HB.out.alloc (Nat.le_refl _) _).alloc (by simp) _⟩
  case round =>
    obtain ⟨k, D, hk, rfl, hn, HS, HM, hb⟩ := hrel
    have HBB := Lib.hid hb
    clear hb
    by_cases hlt : k < bs.length
    · obtain ⟨x1, o1, rfl, l1, c0, c1', c2'⟩ := H1.out k hlt
      rw [← HBB.out.cell (p := ⟨x1, o1 + k * 3, none⟩) l1] at c0
      rw [← HBB.out.cell (p := ⟨x1, o1 + k * 3 + 1, none⟩) l1] at c1'
      rw [← HBB.out.cell (p := ⟨x1, o1 + k * 3 + 2, none⟩) l1] at c2'
      have HE := Lib.hid (Blok.not_at (c := c) hlt)
      have HBA := Lib.hid (HBB.out.alloc HBB.out.size (.cells #[.string (T bs[k].sc), .int .i64 bs[k].kd, .string (T bs[k].dt)] 49))
      cases hkn : Blok.known bs[k].kd
      · have HF := Lib.hid (HE.out (fun h => by rw [h.1] at hkn; cases hkn))
        have HK := Lib.hid (fun w => known_any bs[k].kd w)
        rw [hkn] at HK
        go_wp2_with fail
        refine (HK.out _).mono ?_; rintro e w1 ⟨rfl, rfl⟩
        go_wp2_with fail
        go_ret
        exact ⟨by rw [HF.out]; rfl, HBA.out⟩
      have HK := Lib.hid (fun w => known_any bs[k].kd w)
      rw [hkn] at HK
      rcases Nat.lt_or_ge 1024 bs[k].dt.length with hdt | hdt
      · have HF := Lib.hid (HE.out (fun h => by have := h.2.1; omega))
        have hdi : (1024 : Int) < bs[k].dt.length := by omega
        go_wp2_with fail
        refine (HK.out _).mono ?_; rintro e w1 ⟨rfl, rfl⟩
        go_wp2_with fail
        go_ret
        exact ⟨by rw [HF.out]; rfl, HBA.out⟩
      have hdi : (bs[k].dt.length : Int) ≤ 1024 := by omega
      by_cases hsc' : ¬ bs[k].sc.length = 32
      · have hsc := hsc'
        have HF := Lib.hid (HE.out (fun h => hsc h.2.2.1))
        have hsi : ¬ (bs[k].sc.length : Int) = 32 := by omega
        go_wp2_with fail
        refine (HK.out _).mono ?_; rintro e w1 ⟨rfl, rfl⟩
        go_wp2_with fail
        go_ret
        exact ⟨by rw [HF.out]; rfl, HBA.out⟩
      have hsc : bs[k].sc.length = 32 := by omega
      have hsi : (bs[k].sc.length : Int) = 32 := by omega
      have hkey : keyOf Tryd.prog 9 (.string (T bs[k].sc)) = some (.string bs[k].sc) := keyOf_string_mk Tryd.underlying9 (by rw [T_size, hsc]; unfold maxLen; omega)
      have HMA := Lib.hid (HM.out.alloc (.cells #[.string (T bs[k].sc), .int .i64 bs[k].kd, .string (T bs[k].dt)] 49))
      obtain ⟨q, hrun, hat, _⟩ := HMA.out.lookup_int blaw Tryd.underlying53 Tryd.underlying3 (bzero _) hkey
      obtain ⟨q', h1, h2, h3, h4⟩ := HS.out.2 bs[k].sc
      rw [hat] at h1
      injection h1 with h1
      injection h1 with _ h1
      subst h1
      have HAT := Lib.hid hat
      have HKEY := Lib.hid hkey
      clear hat hkey
      by_cases hix : 0 ≤ Blok.idx bs[k].sc (bs.take k)
      · have HF := Lib.hid (HE.out (fun h => by have := h.2.2.2; omega))
        have hq : 0 < q := h4.2 hix
        clear h4
        go_wp2_with fail
        refine (HK.out _).mono ?_; rintro e w1 ⟨rfl, rfl⟩
        go_wp2_with fail
        go_ret
        exact ⟨by rw [HF.out]; rfl, HBA.out⟩
      have hx2 : Blok.idx bs[k].sc (bs.take k) < 0 := by omega
      have hq : q ≤ 0 := by
        rcases Int.lt_or_le 0 q with h | h
        · exact absurd (h4.1 h) hix
        · exact h
      have hq0 : q = 0 := by omega
      subst hq0
      have HSN : Hid (∀ j (hj : j < k + 1) (hk : k + 1 ≤ bs.length), Blok.okAt bs j (bs[j]'(by omega))) := fun j hj hk' => by
        rcases Nat.lt_or_ge j k with h | h
        · exact hn.out j h hk
        · obtain rfl : j = k := by omega
          exact ⟨hkn, hdt, hsc, hx2⟩
      have HS2 := Lib.hid (Blok.seen_put HS.out HAT.out)
      rw [← List.take_succ_eq_append_getElem hlt] at HS2
      clear h4 hq h2 h3
      go_wp2_with fail
      refine (HK.out _).mono ?_; rintro e w1 ⟨rfl, rfl⟩
      go_wp2_with (at_mapUpdate; refine wpList_mapUpdate_own _ rfl _ _ _ 53 rfl 9 3 blaw Tryd.underlying53 _ (w.heap.size + 1) k _ rfl HMA.out (by unfold maxLen; omega) _ _ _ rfl rfl HKEY.out _ [] (plainElem_int Tryd.underlying3 (by decide)) ?_)
      intro w1 hown1 hgrow1
      have HO1 := Lib.hid hown1
      have HB1 := Lib.hid (HBA.out.grown hgrow1 (HBA.out.size) (fun j hj => by cases hj; exact Nat.le_succ _))
      clear hown1 hgrow1
      go_wp2_with fail
      go_roundw
      case rel => exact ⟨k + 1, _, by omega, by go_num, HSN, HS2, HO1, HB1.out⟩
      case measure => simp [intOf]; omega
    · obtain rfl : k = bs.length := by omega
      have HF := Lib.hid (HOK.out fun j hj => hn.out j hj (Nat.le_refl _))
      go_wp2_with fail
      go_ret
      exact ⟨by rw [HF.out]; rfl, HBB.out⟩
end Go.Proofs.YtpcieookddpkhaaDoor
