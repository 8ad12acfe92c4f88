/- What lex.Scan returns at words with a blank between any two: a token a word. Conditions: at most 900 words, at most 10000 bytes. -/
import Derived.Test.YtfibaopngpfmjaaGreatDoorPxToken
set_option linter.unusedVariables false
set_option linter.unusedSimpArgs false
namespace Go.Proofs.YtfibaopngpfmjaaGreatDoor
open Go.RowKit Go.Proofs
/-- Words, a blank ahead of each. -/
def Lx.tail : List (List UInt8) → List UInt8
  | [] => []
  | v :: vs => 32 :: (Lx.quote v ++ Lx.tail vs)
/-- Words, a blank between any two. -/
def Lx.prog : List (List UInt8) → List UInt8
  | [] => []
  | v :: vs => Lx.quote v ++ Lx.tail vs
theorem Lx.stop_tail (ws : List (List UInt8)) : Lx.stop (Lx.tail ws) := by
  cases ws with
  | nil => exact .inl rfl
  | cons v vs => exact .inr ⟨_, rfl⟩
def Tok.key (t : Tok) : Int × List UInt8 × List UInt8 := (t.kind, t.text, t.quoted)
def Lx.key (v : List UInt8) : Int × List UInt8 × List UInt8 := (1, v, Lx.marks v)
theorem u8_ne {c d : UInt8} (h : c ≠ d) : ((c.toNat : Int) == (d.toNat : Int)) = false := by
  rw [beq_eq_false_iff_ne]
  intro e
  exact h (UInt8.toNat_inj.1 (by omega))
theorem ScRow.setEnd {w : World} {g : Nat} {s : List UInt8} {at_ en : Nat} {tv : Value} (h : ScRow w g s at_ en tv) (n : Nat) : ScRow (w.setCell ⟨g, 4, none⟩ (.int .i64 (n : Int))) g s at_ n tv :=
  heap_setCell_same w g 4 _ _ (.int .i64 (n : Int)) h
theorem blanks_any (g : Nat) (s pre r : List UInt8) (at_ en : Nat) (tv : Value) (w : World) (h : ScRow w g s at_ en tv) (ha : at_ ≤ s.length) (hs : s.length ≤ 10000) (hp : pre = [] ∨ pre = [32]) (hd : s.drop at_ = pre ++ r) (hf : Lx.free r) :
    Calls Tryz.prog 36 #[.pointer (some ⟨g, 0, none⟩)] w fun e w' => e = .returned (.tuple #[]) ∧ ScRow w' g s (at_ + pre.length) en tv ∧ w.grownBy w' (some g) := by
  rcases hp with rfl | rfl
  · refine (blanks_none g s at_ en tv w h ha hs (by rw [hd]; exact hf)).mono ?_
    rintro e w' ⟨rfl, hb⟩
    exact ⟨rfl, h.next hb, below_grownBy hb (some g)⟩
  · have hl : at_ + 1 ≤ s.length := by
      have := congrArg List.length hd
      simp at this
      omega
    exact blanks_one g s at_ en tv w h hl hs (by rw [hd, List.singleton_append, hasPrefix_cons]; rfl) (by rw [show s.drop (at_ + 1) = r from drop_of s at_ [32] r hd]; exact hf)
theorem drop_tail (s : List UInt8) (a : Nat) (p tl : List UInt8) (h : s.drop a = p ++ tl) (ha : a ≤ s.length) : s.drop (s.length - tl.length) = tl := by
  have e1 := drop_of s a p tl h
  have e2 := congrArg List.length h
  rw [List.length_drop, List.length_append] at e2
  rw [show s.length - tl.length = a + p.length from by omega]
  exact e1
/-- The state ahead of a round: the words ws' are to come. -/
def SnSt (w0 : World) (g B : Nat) (s : List UInt8) (ws : List (List UInt8)) (k : Nat) (W : World) : Prop :=
  ∃ at_ en l pre ws' r, ScS W g B s at_ en l ∧ at_ ≤ s.length ∧ s.drop at_ = pre ++ r ∧ (pre = [] ∨ pre = [32]) ∧ (l = [] ∨ pre = [32] ∨ ws' = []) ∧ r = Lx.prog ws' ∧ l.map Tok.key ++ ws'.map Lx.key = ws.map Lx.key ∧ Below w0.heap.size w0 W ∧ B ≤ W.heap.size ∧ k = ws'.length ∧ (∀ t ∈ l, t.kind = 1) ∧ (ws' = [] → pre = [])
theorem snst_next {ws' : List (List UInt8)} : ∃ pre, Lx.tail ws' = pre ++ Lx.prog ws' ∧ (pre = [] ∨ pre = [32]) ∧ (pre = [32] ∨ ws' = []) ∧ (ws' = [] → pre = []) := by
  cases ws' with
  | nil => exact ⟨[], rfl, .inl rfl, .inr rfl, fun _ => rfl⟩
  | cons v vs => exact ⟨[32], rfl, .inr rfl, .inl rfl, fun h => by cases h⟩
set_option maxRecDepth 100000 in
set_option maxHeartbeats 8000000 in
theorem scan_any (ws : List (List UInt8)) (w : World) (hw : ws.length ≤ 900) (hs : (Lx.prog ws).length ≤ 10000) :
    Calls Tryz.prog 15 #[.string (T (Lx.prog ws))] w fun e w' => ∃ l tv, e = .returned (.tuple #[tv, .int .i64 0, .int .i64 0]) ∧ w'.ownsRow (w.heap.size + 1) 132 4 tv l.length (toks l) ∧ l.map Tok.key = ws.map Lx.key ∧ Below w.heap.size w w' := by
  have hb0 : ¬ (65536 : Int) < ((Lx.prog ws).length : Int) := by omega
  have hsz : (T (Lx.prog ws)).size = (Lx.prog ws).length := T_size _
  have HB0 := Lib.hid (show Below w.heap.size w (w.alloc (.cells #[.string (T (Lx.prog ws)), .int .i64 0, .slice none 0 0, .slice none 0 0, .int .i64 0, .int .i64 0, .int .i64 0] 95)) from (Below.refl _ w).alloc (Nat.le_refl _) _)
  have HS0 := Lib.hid (show ScS (w.alloc (.cells #[.string (T (Lx.prog ws)), .int .i64 0, .slice none 0 0, .slice none 0 0, .int .i64 0, .int .i64 0, .int .i64 0] 95)) w.heap.size (w.heap.size + 1) (Lx.prog ws) 0 0 [] from ⟨.slice none 0 0, heap_alloc_new w _, ⟨rfl, .inl ⟨rfl, rfl⟩⟩, Nat.lt_succ_self _⟩)
  have HN0 := Lib.hid (show w.heap.size + 1 ≤ (w.alloc (.cells #[.string (T (Lx.prog ws)), .int .i64 0, .slice none 0 0, .slice none 0 0, .int .i64 0, .int .i64 0, .int .i64 0] 95)).heap.size from by simp)
  have A := Lib.hid (And.intro hs hw)
  have HP := Lib.hid (show ∃ r, r = Lx.prog ws from ⟨_, rfl⟩)
  clear hs hw
  generalize hsp : Lx.prog ws = s at *
  have HSP := Lib.hid hsp
  clear hsp
  go_enter Tryz.func15, Tryz.ntmps15
  go_wp2_with fail
  generalize World.alloc _ _ = w1 at *
  go_loopg [] ws.length (fun k W => SnSt w w.heap.size (w.heap.size + 1) s ws k W)
  case atStart =>
    exact ⟨0, 0, [], [], ws, s, HS0.out, Nat.zero_le _, rfl, .inl rfl, .inl rfl, HSP.out.symm, rfl, HB0.out, HN0.out, rfl, ⟨fun t ht => absurd ht List.not_mem_nil, fun _ => rfl⟩⟩
  case round =>
    obtain ⟨at_, en, l, pre, ws', r, hsc, hle, hd, hpre, hlp, hr, hkey, hbw, hBs, hk, hk1, hpe⟩ := hrel
    have hgl := hsc.lt
    have hs := A.out.1
    obtain ⟨tv, hro, hown, hgB⟩ := hsc
    obtain ⟨⟨r0, r1, r2, r3, r4, r5, r6⟩, f1, f2, f4⟩ := hro.reads
    have HE := Lib.hid (hro.setEnd at_)
    have HO := Lib.hid (hown.kept (grown_setG (below_grownBy (Below.refl wr.heap.size wr) (some w.heap.size)) 4 (.int .i64 (at_ : Int))) (Or.inr (own_not hown hgB)))
    have HB := Lib.hid (show Below w.heap.size w (wr.setCell ⟨w.heap.size, 4, none⟩ (.int .i64 (at_ : Int))) from hbw.setCell (p := ⟨w.heap.size, 4, none⟩) (Nat.le_refl _) _)
    have HN := Lib.hid (show w.heap.size + 1 ≤ (wr.setCell ⟨w.heap.size, 4, none⟩ (.int .i64 (at_ : Int))).heap.size from by simpa using hBs)
    have HLEN : RowKit.Hid (l.length + ws'.length = ws.length) := Lib.hid (by have := congrArg List.length hkey; simpa using this)
    cases ws' with
    | nil =>
      have hp0 := hpe rfl
      subst hp0
      have hr0 : r = [] := hr
      subst hr0
      have HBL := Lib.hid (fun (W : World) (h : ScRow W w.heap.size s at_ at_ tv) => blanks_any w.heap.size s [] [] at_ at_ tv W h hle hs (.inl rfl) hd ⟨rfl, rfl, rfl⟩)
      have HR := Lib.hid (fun (W : World) (h : ScRow W w.heap.size s at_ at_ tv) => rest_any w.heap.size s at_ at_ tv W h hle hs)
      rw [hd] at HR
      have HK := Lib.hid hkey
      have HF := Lib.hid (show Below w.heap.size w wr from hbw)
      clear hown hro hd hk hk1 hkey hbw hpre hlp hr hpe
      go_wp2_with fail
      clear r0 r1 r2 r3 r4 r5 r6 f1 f2 f4
      generalize World.setCell _ _ _ = w2 at *
      (with_reducible refine (HBL.out _ HE.out).mono ?_); rintro e w3 ⟨rfl, hr3, g3⟩
      have HE3 := Lib.hid hr3
      have HO3 := Lib.hid (HO.out.kept g3 (Or.inr (own_not HO.out hgB)))
      have HB3 := Lib.hid (HB.out.trans (below_of_grown g3 (row_ltP HE.out)))
      clear hr3 g3 HE HO HB HN
      go_wp2_with fail
      (with_reducible refine (HR.out _ HE3.out).mono ?_); rintro e w4 ⟨rfl, b4⟩
      have HE4 := Lib.hid (HE3.out.next b4)
      have HO4 := Lib.hid (own_next HO3.out b4)
      have HB4 := Lib.hid (bnext HB3.out b4)
      clear b4 HE3 HO3 HB3
      obtain ⟨⟨r0, r1, r2, r3, r4, r5, r6⟩, f1, f2, f4⟩ := HE4.out.reads
      go_wp2_with fail
      go_ret3
      exact ⟨l, tv, rfl, HO4.out, by have := HK.out; simpa using this, HB4.out⟩
    | cons v vs =>
      obtain ⟨c, q, hq, hc⟩ := Lx.quote_head v
      have hrc : r = c :: (q ++ Lx.tail vs) := by rw [hr]; show Lx.quote v ++ Lx.tail vs = _; rw [hq]; rfl
      have hal : at_ + pre.length ≤ s.length := by
        have := congrArg List.length hd
        rw [List.length_drop, List.length_append, hrc] at this
        simp at this
        omega
      have hd2 : s.drop (at_ + pre.length) = r := drop_of s at_ pre r hd
      have HBL := Lib.hid (fun (W : World) (h : ScRow W w.heap.size s at_ at_ tv) => blanks_any w.heap.size s pre r at_ at_ tv W h hle hs hpre hd (by rw [hrc]; exact Lx.free_wordy hc _))
      have HR := Lib.hid (fun (W : World) (h : ScRow W w.heap.size s (at_ + pre.length) at_ tv) => rest_any w.heap.size s (at_ + pre.length) at_ tv W h hal hs)
      rw [hd2, hrc] at HR
      have HTK := Lib.hid (fun (W : World) (h : ScS W w.heap.size (w.heap.size + 1) s (at_ + pre.length) at_ l) hB => token_any w.heap.size (w.heap.size + 1) s v (Lx.tail vs) (at_ + pre.length) at_ l W h (by
        rcases hlp with h | h | h
        · exact .inl h
        · refine .inr ?_
          rw [h]; simp
        · cases h) hk1 (by have := HLEN.out; have := A.out.2; omega) hB hal hs (by rw [hd2, hr]; rfl) (Lx.stop_tail vs))
      have HDT := Lib.hid (drop_tail s (at_ + pre.length) (Lx.quote v) (Lx.tail vs) (by rw [hd2, hr]; rfl) hal)
      have HPX := Lib.hid (fun (W : World) => hp_any (c :: (q ++ Lx.tail vs)) [60, 60] W)
      rw [Lx.hp_ne c _ 60 [60] (Lx.wordy_ne hc (by decide))] at HPX
      have hg : ∀ h, (T (c :: (q ++ Lx.tail vs)))[0]'h = c := fun _ => rfl
      have h0 : ((T (c :: (q ++ Lx.tail vs))).size : Int) = ((q ++ Lx.tail vs).length : Int) + 1 := by rw [T_size]; simp
      have h35 : ((c.toNat : Int) == 35) = false := u8_ne (d := 35) (Lx.wordy_ne hc (by decide))
      have h10 : ((c.toNat : Int) == 10) = false := u8_ne (d := 10) (Lx.wordy_ne hc (by decide))
      have HK := Lib.hid (And.intro hkey (And.intro hk hk1))
      clear hown hro hd hd2 hk hk1 hkey hbw hpre hlp hr hpe hrc hq hc hal
      generalize q ++ Lx.tail vs = qq at *
      go_wp2_with fail
      clear r0 r1 r2 r3 r4 r5 r6 f1 f2 f4
      generalize World.setCell _ _ _ = w2 at *
      (with_reducible refine (HBL.out _ HE.out).mono ?_); rintro e w3 ⟨rfl, hr3, g3⟩
      have HE3 := Lib.hid hr3
      have HO3 := Lib.hid (HO.out.kept g3 (Or.inr (own_not HO.out hgB)))
      have HB3 := Lib.hid (HB.out.trans (below_of_grown g3 (row_ltP HE.out)))
      have HN3 := Lib.hid (Nat.le_trans HN.out g3.size)
      clear hr3 g3 HE HO HB HN
      go_wp2_with fail
      (with_reducible refine (HR.out _ HE3.out).mono ?_); rintro e w4 ⟨rfl, b4⟩
      have HS4 := Lib.hid (show ScS w4 w.heap.size (w.heap.size + 1) s (at_ + pre.length) at_ l from ⟨tv, HE3.out.next b4, own_next HO3.out b4, hgB⟩)
      have HB4 := Lib.hid (bnext HB3.out b4)
      have HN4 := Lib.hid (Nat.le_trans HN3.out b4.size)
      clear b4 HE3 HO3 HB3 HN3
      go_wp2_with fail
      (with_reducible refine (HPX.out _).mono ?_); rintro e w5 ⟨rfl, rfl⟩
      go_wp2_with fail
      (with_reducible refine (HTK.out _ HS4.out HN4.out).mono ?_); rintro e w6 ⟨rfl, hs6, b6⟩
      have HS6 := Lib.hid hs6
      have HB6 := Lib.hid (HB4.out.trans b6)
      have HN6 := Lib.hid (Nat.le_trans HN4.out b6.size)
      clear hs6 b6 HS4 HB4 HN4
      go_wp2_with fail
      obtain ⟨hkey, hk, hk1⟩ := HK.out
      go_roundg vs.length
      case measure => rw [hk]; simp
      case rel =>
        obtain ⟨pre2, hp1, hp2, hp3, hp4⟩ := snst_next (ws' := vs)
        refine ⟨s.length - (Lx.tail vs).length, at_, l ++ [⟨1, at_ + pre.length, v, Lx.marks v⟩], pre2, vs, Lx.prog vs, HS6.out, by omega, by rw [HDT.out, hp1], hp2, .inr hp3, rfl, ?_, HB6.out, HN6.out, rfl, ?_, hp4⟩
        · rw [← hkey]; simp [Tok.key, Lx.key]
        · intro t ht
          rcases List.mem_append.1 ht with h | h
          · exact hk1 t h
          · rw [List.mem_singleton] at h; rw [h]
end Go.Proofs.YtfibaopngpfmjaaGreatDoor
