/- What lex.Plain and lex.Quote return: Lx.plain, Lx.quote. Conditions: a text of at most 10000 bytes. -/
import Derived.Test.YtfibaopngpfmjaaGreatDoorPxBlank
import Derived.Lib.OthersKept
import Derived.Deep.LoopGhost
import Derived.Laws.RangeAny
set_option linter.unusedVariables false
set_option linter.unusedSimpArgs false
namespace Go.Proofs.YtfibaopngpfmjaaGreatDoor
open Go.RowKit Go.Proofs
theorem Lx.bad_small (c : UInt8) (h : Lx.bad c = true) : c.toNat < 128 := by
  simp [Lx.bad, Lx.specials, Lx.escapes] at h
  rcases h with rfl | rfl | rfl | rfl | rfl | rfl | rfl | rfl | rfl | rfl | rfl | rfl | rfl | rfl | rfl | rfl | rfl | rfl | rfl | rfl | rfl <;> decide
theorem Lx.bad_spec {c : UInt8} (h : Lx.bad c = false) : Lx.special c = false ∧ c ≠ 92 := by
  unfold Lx.bad at h
  refine ⟨?_, ?_⟩
  · unfold Lx.special
    rw [List.contains_eq_mem] at h ⊢
    simp only [decide_eq_false_iff_not, List.mem_append, not_or] at h ⊢
    exact h.1
  · rintro rfl
    revert h; decide
theorem get_T (s : List UInt8) (j : Nat) (h : j < s.length) : (T s).get! j = s[j] := by
  show s.toArray[j]! = _
  rw [getElem!_pos s.toArray j (by simpa using h)]
  simp
/-- Behind the first byte of a rune there is no small one. -/
theorem decode_tail (s : List UInt8) (pos : Nat) (k : Nat) (h1 : pos < k) (h2 : k < pos + (Utf8.decode (T s) pos).2) (hk : k < s.length) : 128 ≤ (s[k]).toNat := by
  have hc : ∀ d, (decide (pos + d < (T s).size) && ((T s).get! (pos + d)).toNat / 64 == 2) = true → ∀ h : pos + d < s.length, 128 ≤ (s[pos + d]).toNat := by
    intro d hd h
    rw [Bool.and_eq_true] at hd
    have e := hd.2
    rw [get_T s _ h] at e
    have e2 : (s[pos + d]).toNat / 64 = 2 := by simpa using e
    omega
  have one : k = pos + 1 ∨ k = pos + 2 ∨ k = pos + 3 ∨ pos + 3 < k := by omega
  unfold Utf8.decode at h2
  simp only [] at h2
  split at h2
  · simp at h2; omega
  · split at h2
    · rename_i _ hb
      rw [Bool.and_eq_true] at hb
      have h3 : k < pos + 2 := by
        split at h2 <;> simp at h2 <;> omega
      obtain rfl : k = pos + 1 := by omega
      exact hc 1 hb.2 hk
    · split at h2
      · rename_i _ _ hb
        rw [Bool.and_eq_true, Bool.and_eq_true] at hb
        have h3 : k < pos + 3 := by
          split at h2 <;> simp at h2 <;> omega
        rcases one with rfl | rfl | rfl | h
        · exact hc 1 hb.1.2 hk
        · exact hc 2 hb.2 hk
        · omega
        · omega
      · split at h2
        · rename_i _ _ _ hb
          rw [Bool.and_eq_true, Bool.and_eq_true, Bool.and_eq_true] at hb
          have h3 : k < pos + 4 := by
            split at h2 <;> simp at h2 <;> omega
          rcases one with rfl | rfl | rfl | h
          · exact hc 1 hb.1.1.2 hk
          · exact hc 2 hb.1.2 hk
          · exact hc 3 hb.2 hk
          · omega
        · simp at h2; omega
theorem Lx.all_bad (s : List UInt8) (h : ∀ j (hj : j < s.length), Lx.bad s[j] = false) : s.all (fun x => !Lx.bad x) = true := by
  rw [List.all_eq_true]
  intro x hx
  obtain ⟨j, hj, rfl⟩ := List.mem_iff_getElem.1 hx
  rw [h j hj]; rfl
theorem Lx.one_bad (s : List UInt8) (j : Nat) (hj : j < s.length) (h : Lx.bad s[j] = true) : s.all (fun x => !Lx.bad x) = false := by
  rw [List.all_eq_false]
  exact ⟨s[j], List.getElem_mem hj, by rw [h]; simp⟩
def PlSt (w0 : World) (s : List UInt8) (k : Nat) (W : World) : Prop :=
  ∃ pos, W.heap[w0.heap.size]? = some (.stringIter (T s) pos) ∧ Below w0.heap.size w0 W ∧ (∀ j (hj : j < s.length), j < pos → Lx.bad s[j] = false) ∧ k = s.length - pos
set_option maxRecDepth 100000 in
set_option maxHeartbeats 4000000 in
theorem plain_any (s : List UInt8) (w : World) (hs : s.length ≤ 10000) :
    Calls Tryz.prog 18 #[.string (T s)] w fun e w' => e = .returned (.bool (Lx.plain s)) ∧ Below w.heap.size w w' := by
  cases s with
  | nil =>
    go_enter Tryz.func18, Tryz.ntmps18
    go_wp2_with fail
    go_ret
    exact ⟨rfl, Below.refl _ _⟩
  | cons c t =>
    have hx := Lx.index_lt Lx.leading c
    have HI := Lib.hid (show ∀ (W : World), Calls Tryz.prog 38 #[.string (T [35, 33, 64]), .int .u8 (c.toNat : Int)] W fun e w' => e = .returned (.int .i64 (Lib.indexByte Lx.leading c)) ∧ w' = W from fun W => by
      have := strings_IndexByte (T Lx.leading) (c.toNat : Int) W
      rw [show ((c.toNat : Int)).toNat.toUInt8 = c from by simp] at this
      exact this)
    have HJ := Lib.hid (show ∀ (c : UInt8) (W : World), Calls Tryz.prog 38 #[.string (T [32, 9, 10, 59, 38, 124, 40, 41, 123, 125, 60, 62, 61, 94, 96, 36, 39, 92, 42, 63, 91]), .int .u8 (c.toNat : Int)] W fun e w' => e = .returned (.int .i64 (Lib.indexByte (Lx.specials ++ Lx.escapes) c)) ∧ w' = W from fun c W => by
      have := strings_IndexByte (T (Lx.specials ++ Lx.escapes)) (c.toNat : Int) W
      rw [show ((c.toNat : Int)).toNat.toUInt8 = c from by simp] at this
      exact this)
    have hg : ∀ h, (T (c :: t))[0]'h = c := fun _ => rfl
    have h0 : ((T (c :: t)).size : Int) = (t.length : Int) + 1 := by rw [T_size]; simp
    have HP : RowKit.Hid (Lx.plain (c :: t) = (!Lx.leading.contains c && (c :: t).all fun x => !Lx.bad x)) := Lib.hid rfl
    generalize Lib.indexByte Lx.leading c = ix at *
    generalize Lx.leading.contains c = lc at *
    cases lc with
    | true =>
      have hx2 : 0 ≤ ix := by
        have : ¬ ix < 0 := of_decide_eq_false hx
        omega
      clear hx
      go_enter Tryz.func18, Tryz.ntmps18
      go_wp2_with fail
      (with_reducible refine (HI.out _).mono ?_); rintro e w1 ⟨rfl, rfl⟩
      go_wp2_with fail
      go_ret
      exact ⟨by rw [HP.out]; rfl, Below.refl _ _⟩
    | false =>
      have hx2 : ix < 0 := of_decide_eq_true hx
      clear hx
      have HS := Lib.hid hs
      clear hs
      go_enter Tryz.func18, Tryz.ntmps18
      go_wp2_with fail
      (with_reducible refine (HI.out _).mono ?_); rintro e w1 ⟨rfl, rfl⟩
      go_wp2_with fail
      clear hg
      generalize hcs : c :: t = l at *
      have HCS := Lib.hid hcs
      clear hcs
      go_loopg [] l.length (fun k W => PlSt w1 l k W)
      case atStart =>
        exact ⟨0, World.iter_heap w1 (T l) 0, (Below.refl w1.heap.size w1).alloc (Nat.le_refl _) _, fun j hj h => absurd h (by omega), rfl⟩
      case round =>
        obtain ⟨pos, hit, hbw, hbad, hk⟩ := hrel
        have HB := Lib.hid hbad
        have HK := Lib.hid hk
        have HIT := Lib.hid hit
        have HW := Lib.hid hbw
        have hsz := T_size l
        clear hbad hk hbw
        by_cases hp : pos < (T l).size
        · have hnx : ∀ ty, (Instr.next (.pointer (some ⟨w1.heap.size, 0, none⟩)) true ty).run Tryz.prog wr = _ := fun ty => Lib.run_next_any_at wr w1.heap.size (T l) pos ty hit hp
          have hp2 : pos < l.length := by omega
          have h1w : 1 ≤ (Utf8.decode (T l) pos).2 := by
            by_cases ha : ((T l)[pos]'hp).toNat < 128
            · rw [decode_ascii (T l) pos hp ha]; exact Nat.le_refl _
            · exact (decode_high (T l) pos hp (by omega)).2
          have HD := Lib.hid (fun k h1 h2 hk => decode_tail l pos k h1 h2 hk)
          have hi0 : (0 : Int) ≤ (pos : Int) := by omega
          have hi1 : (pos : Int) < ((T l).size : Int) := by omega
          have hi2 : (pos : Int) < (l.length : Int) := by omega
          have hgx : ∀ h, (T l)[pos]'h = l[pos] := fun h => rfl
          have HJ2 := Lib.hid (HJ.out l[pos])
          have hxx : decide (Lib.indexByte (Lx.specials ++ Lx.escapes) l[pos] < 0) = !Lx.bad l[pos] := Lx.index_lt _ _
          have HBX := Lib.hid (show ∀ b, Lx.bad l[pos] = b → Lx.bad l[pos] = b from fun _ h => h)
          generalize hix : Lib.indexByte (Lx.specials ++ Lx.escapes) l[pos] = iy at *
          have HW2 := Lib.hid (Lib.below_iterAt HW.out (k := w1.heap.size) (Nat.le_refl _) (T l) (pos + (Utf8.decode (T l) pos).2))
          have HIT2 := Lib.hid (Lib.iterAt_heap wr w1.heap.size (T l) pos (pos + (Utf8.decode (T l) pos).2) hit)
          have HL := Lib.hid h1w
          clear hit hix h1w HIT HW
          generalize hdw : (Utf8.decode (T l) pos).2 = dw at *
          generalize (Utf8.decode (T l) pos).1 = dr at *
          by_cases hb : Lx.bad l[pos] = true
          · have hy : 0 ≤ iy := by
              rw [hb] at hxx
              have : ¬ iy < 0 := of_decide_eq_false hxx
              omega
            have HBB := Lib.hid hb
            clear hxx hb HBX
            generalize hlp : l[pos] = x at *
            go_wp2_with fail
            (with_reducible refine (HJ2.out _).mono ?_); rintro e w3 ⟨rfl, rfl⟩
            go_wp2_with fail
            go_ret
            refine ⟨?_, HW2.out⟩
            rw [HCS.out, HP.out, Lx.one_bad l pos hp2 (by rw [hlp]; exact HBB.out)]
            rfl
          · have hbf : Lx.bad l[pos] = false := by simpa using hb
            have hy : iy < 0 := by
              rw [hbf] at hxx
              exact of_decide_eq_true hxx
            have HBB := Lib.hid hbf
            clear hxx hb hbf HBX
            generalize hlp : l[pos] = x at *
            go_wp2_with fail
            (with_reducible refine (HJ2.out _).mono ?_); rintro e w3 ⟨rfl, rfl⟩
            go_wp2_with fail
            go_roundg (l.length - (pos + dw))
            case measure =>
              have := HK.out
              have := HL.out
              omega
            case rel =>
              refine ⟨pos + dw, HIT2.out, HW2.out, ?_, rfl⟩
              intro j hj hjp
              rcases Nat.lt_trichotomy j pos with h | h | h
              · exact HB.out j hj h
              · subst h
                rw [hlp]; exact HBB.out
              · have := HD.out j h hjp hj
                rcases hbj : Lx.bad l[j] with _ | _
                · rfl
                · have := Lx.bad_small _ hbj
                  omega
        · have hnx : ∀ ty, (Instr.next (.pointer (some ⟨w1.heap.size, 0, none⟩)) true ty).run Tryz.prog wr = _ := fun ty => Lib.run_next_end_at wr w1.heap.size (T l) pos ty hit hp
          have hp2 : l.length ≤ pos := by omega
          clear hit
          go_wp2_with fail
          go_ret
          refine ⟨?_, HW.out⟩
          rw [HCS.out, HP.out, Lx.all_bad l (fun j hj => HB.out j hj (by omega))]
          rfl
end Go.Proofs.YtfibaopngpfmjaaGreatDoor
