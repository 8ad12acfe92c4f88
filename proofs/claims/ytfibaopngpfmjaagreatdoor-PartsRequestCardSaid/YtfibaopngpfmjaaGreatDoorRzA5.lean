/- The scanner's tokens. Conditions: those that each theorem names. -/
import Derived.Test.YtfibaopngpfmjaaGreatDoorRzA3
import Derived.Lib.OthersKept
import Derived.Deep.LoopGhost
import Derived.Laws.RangeAny
import Derived.Test.YtfibaopngpfmjaaGreatDoorRzA4
import Derived.Test.YtfibaopngpfmjaaGreatDoorRzA1
import Derived.Deep.AppendLies
set_option linter.unusedVariables false
set_option linter.unusedSimpArgs false
set_option maxRecDepth 100000
set_option maxHeartbeats 8000000
namespace Go.Proofs.YtfibaopngpfmjaaGreatDoor
open Go.RowKit Go.Proofs
theorem Lx.bad_small (c : UInt8) (h : Lx.bad c = true) : c.toNat < 128 := by
 simp [Lx.bad, Lx.specials, Lx.escapes] at h
 rcases h with rfl | rfl | rfl | rfl | rfl | rfl | rfl | rfl | rfl | rfl | rfl | rfl | rfl | rfl | rfl | rfl | rfl | rfl | rfl | rfl | rfl <;> decide
theorem Lx.bad_spec {c : UInt8} (h : Lx.bad c = false) : Lx.special c = false ∧ c ≠ 92 := by
 unfold Lx.bad at h
 refine ⟨?_, ?_⟩
 ·unfold Lx.special
  rw [List.contains_eq_mem] at h ⊢
  simp only [decide_eq_false_iff_not, List.mem_append, not_or] at h ⊢
  exact h.1
 ·rintro rfl
  revert h; decide
theorem get_T (s : List UInt8) (j : Nat) (h : j < s.length) : (T s).get! j = s[j] := by
 show s.toArray[j]! = _
 rw [getElem!_pos s.toArray j (by simpa using h)]
 simp
/-- Behind the first byte of a rune there is no small one. -/
theorem decode_tail (s : List UInt8) (pos : Nat) (k : Nat) (h1 : pos < k) (h2 : k < pos + (Utf8.decode (T s) pos).2) (hk : k < s.length) : 128 ≤ (s[k]).toNat := by
 have hc : ∀ d, (decide (pos + d < (T s).size) && ((T s).get! (pos + d)).toNat / 64 == 2) = true → ∀ h : pos + d < s.length, 128 ≤ (s[pos + d]).toNat := by
  intro d hd h
  rw [Bool.and_eq_true] at hd
  have e := hd.2
  rw [get_T s _ h] at e
  have e2 : (s[pos + d]).toNat / 64 = 2 := by simpa using e
  omega
 have one : k = pos + 1 ∨ k = pos + 2 ∨ k = pos + 3 ∨ pos + 3 < k := by omega
 unfold Utf8.decode at h2
 simp only [] at h2
 split at h2
 ·simp at h2; omega
 ·split at h2
  ·rename_i _ hb
   rw [Bool.and_eq_true] at hb
   have h3 : k < pos + 2 := by
    split at h2 <;> simp at h2 <;> omega
   obtain rfl : k = pos + 1 := by omega
   exact hc 1 hb.2 hk
  ·split at h2
   ·rename_i _ _ hb
    rw [Bool.and_eq_true, Bool.and_eq_true] at hb
    have h3 : k < pos + 3 := by
     split at h2 <;> simp at h2 <;> omega
    rcases one with rfl | rfl | rfl | h
    ·exact hc 1 hb.1.2 hk
    ·exact hc 2 hb.2 hk
    ·omega
    ·omega
   ·split at h2
    ·rename_i _ _ _ hb
     rw [Bool.and_eq_true, Bool.and_eq_true, Bool.and_eq_true] at hb
     have h3 : k < pos + 4 := by
      split at h2 <;> simp at h2 <;> omega
     rcases one with rfl | rfl | rfl | h
     ·exact hc 1 hb.1.1.2 hk
     ·exact hc 2 hb.1.2 hk
     ·exact hc 3 hb.2 hk
     ·omega
    ·simp at h2; omega
theorem Lx.all_bad (s : List UInt8) (h : ∀ j (hj : j < s.length), Lx.bad s[j] = false) : s.all (fun x => !Lx.bad x) = true := by
 rw [List.all_eq_true]
 intro x hx
 obtain ⟨j, hj, rfl⟩ := List.mem_iff_getElem.1 hx
 rw [h j hj]; rfl
theorem Lx.one_bad (s : List UInt8) (j : Nat) (hj : j < s.length) (h : Lx.bad s[j] = true) : s.all (fun x => !Lx.bad x) = false := by
 rw [List.all_eq_false]
 exact ⟨s[j], List.getElem_mem hj, by rw [h]; simp⟩
def PlSt (w0 : World) (s : List UInt8) (k : Nat) (W : World) : Prop :=
 ∃ pos, W.heap[w0.heap.size]? = some (.stringIter (T s) pos) ∧ Below w0.heap.size w0 W ∧ (∀ j (hj : j < s.length), j < pos → Lx.bad s[j] = false) ∧ k = s.length - pos
theorem plain_any (s : List UInt8) (w : World) (hs : s.length ≤ 10000) :
  Calls Tryz.prog 18 #[.string (T s)] w fun e w' => e = .returned (.bool (Lx.plain s)) ∧ Below w.heap.size w w' := by
 cases s with
 | nil =>
  go_enter Tryz.func18, Tryz.ntmps18
  go_wp2_with fail
  go_ret
  exact ⟨rfl, Below.refl _ _⟩
 | cons c t =>
  have hx := Lx.index_lt Lx.leading c
  have HI := lh (show ∀ (W : World), Calls Tryz.prog 38 #[.string (T [35, 33, 64]), .int .u8 (c.toNat : Int)] W fun e w' => e = .returned (.int .i64 (Lib.indexByte Lx.leading c)) ∧ w' = W from fun W => by
   have := strings_IndexByte (T Lx.leading) (c.toNat : Int) W
   rw [show ((c.toNat : Int)).toNat.toUInt8 = c from by simp] at this
   exact this)
  have HJ := lh (show ∀ (c : UInt8) (W : World), Calls Tryz.prog 38 #[.string (T [32, 9, 10, 59, 38, 124, 40, 41, 123, 125, 60, 62, 61, 94, 96, 36, 39, 92, 42, 63, 91]), .int .u8 (c.toNat : Int)] W fun e w' => e = .returned (.int .i64 (Lib.indexByte (Lx.specials ++ Lx.escapes) c)) ∧ w' = W from fun c W => by
   have := strings_IndexByte (T (Lx.specials ++ Lx.escapes)) (c.toNat : Int) W
   rw [show ((c.toNat : Int)).toNat.toUInt8 = c from by simp] at this
   exact this)
  have hg : ∀ h, (T (c :: t))[0]'h = c := fun _ => rfl
  have h0 : ((T (c :: t)).size : Int) = (t.length : Int) + 1 := by rw [T_size]; simp
  have HP : RowKit.Hid (Lx.plain (c :: t) = (!Lx.leading.contains c && (c :: t).all fun x => !Lx.bad x)) := lh rfl
  generalize Lib.indexByte Lx.leading c = ix at *
  generalize Lx.leading.contains c = lc at *
  cases lc with
  | true =>
   have hx2 : 0 ≤ ix := by
    have : ¬ ix < 0 := of_decide_eq_false hx
    omega
   clear hx
   go_enter Tryz.func18, Tryz.ntmps18
   go_wp2_with fail
   (with_reducible refine (HI.out _).mono ?_); rintro e w1 ⟨rfl, rfl⟩
   go_wp2_with fail
   go_ret
   exact ⟨by rw [HP.out]; rfl, Below.refl _ _⟩
  | false =>
   have hx2 : ix < 0 := of_decide_eq_true hx
   clear hx
   have HS := lh hs
   clear hs
   go_enter Tryz.func18, Tryz.ntmps18
   go_wp2_with fail
   (with_reducible refine (HI.out _).mono ?_); rintro e w1 ⟨rfl, rfl⟩
   go_wp2_with fail
   clear hg
   generalize hcs : c :: t = l at *
   have HCS := lh hcs
   clear hcs
   go_loopg [] l.length (fun k W => PlSt w1 l k W)
   case atStart =>
    exact ⟨0, World.iter_heap w1 (T l) 0, (Below.refl w1.heap.size w1).alloc (Nat.le_refl _) _, fun j hj h => absurd h (by omega), rfl⟩
   case round =>
    obtain ⟨pos, hit, hbw, hbad, hk⟩ := hrel
    have HB := lh hbad
    have HK := lh hk
    have HIT := lh hit
    have HW := lh hbw
    have hsz := T_size l
    clear hbad hk hbw
    by_cases hp : pos < (T l).size
    ·have hnx : ∀ ty, (Instr.next (.pointer (some ⟨w1.heap.size, 0, none⟩)) true ty).run Tryz.prog wr = _ := fun ty => Lib.run_next_any_at wr w1.heap.size (T l) pos ty hit hp
     have hp2 : pos < l.length := by omega
     have h1w : 1 ≤ (Utf8.decode (T l) pos).2 := by
      by_cases ha : ((T l)[pos]'hp).toNat < 128
      ·rw [decode_ascii (T l) pos hp ha]; exact Nat.le_refl _
      ·exact (decode_high (T l) pos hp (by omega)).2
     have HD := lh (fun k h1 h2 hk => decode_tail l pos k h1 h2 hk)
     have hi0 : (0 : Int) ≤ (pos : Int) := by omega
     have hi1 : (pos : Int) < ((T l).size : Int) := by omega
     have hi2 : (pos : Int) < (l.length : Int) := by omega
     have hgx : ∀ h, (T l)[pos]'h = l[pos] := fun h => rfl
     have HJ2 := lh (HJ.out l[pos])
     have hxx : decide (Lib.indexByte (Lx.specials ++ Lx.escapes) l[pos] < 0) = !Lx.bad l[pos] := Lx.index_lt _ _
     have HBX := lh (show ∀ b, Lx.bad l[pos] = b → Lx.bad l[pos] = b from fun _ h => h)
     generalize hix : Lib.indexByte (Lx.specials ++ Lx.escapes) l[pos] = iy at *
     have HW2 := lh (Lib.below_iterAt HW.out (k := w1.heap.size) (Nat.le_refl _) (T l) (pos + (Utf8.decode (T l) pos).2))
     have HIT2 := lh (Lib.iterAt_heap wr w1.heap.size (T l) pos (pos + (Utf8.decode (T l) pos).2) hit)
     have HL := lh h1w
     clear hit hix h1w HIT HW
     generalize hdw : (Utf8.decode (T l) pos).2 = dw at *
     generalize (Utf8.decode (T l) pos).1 = dr at *
     by_cases hb : Lx.bad l[pos] = true
     ·have hy : 0 ≤ iy := by
       rw [hb] at hxx
       have : ¬ iy < 0 := of_decide_eq_false hxx
       omega
      have HBB := lh hb
      clear hxx hb HBX
      generalize hlp : l[pos] = x at *
      go_wp2_with fail
      (with_reducible refine (HJ2.out _).mono ?_); rintro e w3 ⟨rfl, rfl⟩
      go_wp2_with fail
      go_ret
      refine ⟨?_, HW2.out⟩
      rw [HCS.out, HP.out, Lx.one_bad l pos hp2 (by rw [hlp]; exact HBB.out)]
      rfl
     ·have hbf : Lx.bad l[pos] = false := by simpa using hb
      have hy : iy < 0 := by
       rw [hbf] at hxx
       exact of_decide_eq_true hxx
      have HBB := lh hbf
      clear hxx hb hbf HBX
      generalize hlp : l[pos] = x at *
      go_wp2_with fail
      (with_reducible refine (HJ2.out _).mono ?_); rintro e w3 ⟨rfl, rfl⟩
      go_wp2_with fail
      go_roundg (l.length - (pos + dw))
      case measure =>
       have := HK.out
       have := HL.out
       omega
      case rel =>
       refine ⟨pos + dw, HIT2.out, HW2.out, ?_, rfl⟩
       intro j hj hjp
       rcases Nat.lt_trichotomy j pos with h | h | h
       ·exact HB.out j hj h
       ·subst h
        rw [hlp]; exact HBB.out
       ·have := HD.out j h hjp hj
        rcases hbj : Lx.bad l[j] with _ | _
        ·rfl
        ·have := Lx.bad_small _ hbj
         omega
    ·have hnx : ∀ ty, (Instr.next (.pointer (some ⟨w1.heap.size, 0, none⟩)) true ty).run Tryz.prog wr = _ := fun ty => Lib.run_next_end_at wr w1.heap.size (T l) pos ty hit hp
     have hp2 : l.length ≤ pos := by omega
     clear hit
     go_wp2_with fail
     go_ret
     refine ⟨?_, HW.out⟩
     rw [HCS.out, HP.out, Lx.all_bad l (fun j hj => HB.out j hj (by omega))]
     rfl
theorem Lx.plain_simple {v : List UInt8} (h : Lx.plain v = true) : Lx.simple v ∧ v ≠ [] := by
 cases v with
 | nil => cases h
 | cons c t =>
  refine ⟨?_, by simp⟩
  have h2 : (!Lx.leading.contains c && (c :: t).all fun x => !Lx.bad x) = true := h
  rw [Bool.and_eq_true] at h2
  intro x hx
  have h3 := List.all_eq_true.1 h2.2 x hx
  exact Lx.bad_spec (by simpa using h3)
theorem word_any (g : Nat) (s v tl : List UInt8) (at_ en : Nat) (tv : Value) (w : World) (h : ScRow w g s at_ en tv) (ha : at_ ≤ s.length) (hs : s.length ≤ 10000) (hd : s.drop at_ = Lx.quote v ++ tl) (htl : Lx.stop tl) :
  Calls Tryz.prog 88 #[.pointer (some ⟨g, 0, none⟩)] w fun e w' => e = .returned (.tuple #[.string (T v), .string (T (Lx.marks v)), .bool true]) ∧ ScRow w' g s (s.length - tl.length) en tv ∧ w.grownBy w' (some g) := by
 unfold Lx.quote at hd
 unfold Lx.marks
 cases hp : Lx.plain v with
 | true =>
  rw [hp, if_pos rfl] at hd
  obtain ⟨h1, h2⟩ := Lx.plain_simple hp
  exact word_plain g s v tl at_ en tv w h ha hs hd h1 h2 htl
 | false =>
  rw [hp, if_neg (by decide)] at hd
  exact word_quoted g s v tl at_ en tv w h ha hs (by rw [hd]; simp) htl
/-- The bytes with which a word begins. -/
def Lx.wordy (c : UInt8) : Bool := c == 39 || (!Lx.bad c && !Lx.leading.contains c)
theorem Lx.quote_head (v : List UInt8) : ∃ c t, Lx.quote v = c :: t ∧ Lx.wordy c = true := by
 unfold Lx.quote
 cases hp : Lx.plain v with
 | false => exact ⟨39, _, rfl, rfl⟩
 | true =>
  cases v with
  | nil => cases hp
  | cons c t =>
   refine ⟨c, t, rfl, ?_⟩
   have h2 : (!Lx.leading.contains c && (c :: t).all fun x => !Lx.bad x) = true := hp
   rw [Bool.and_eq_true] at h2
   have h3 := List.all_eq_true.1 h2.2 c (List.mem_cons_self ..)
   unfold Lx.wordy
   rw [h2.1, h3]
   simp
theorem Lx.wordy_ne {c d : UInt8} (h : Lx.wordy c = true) (hd : Lx.wordy d = false) : c ≠ d := by
 rintro rfl
 rw [h] at hd
 cases hd
theorem Lx.hp_ne (c : UInt8) (t : List UInt8) (d : UInt8) (p : List UInt8) (h : c ≠ d) : Go.Lib.hasPrefix (c :: t) (d :: p) = false := by
 unfold Go.Lib.hasPrefix
 have e : (d == c) = false := by simpa using fun e => h e.symm
 simp [List.isPrefixOf, e]
theorem Lx.free_wordy {c : UInt8} (h : Lx.wordy c = true) (t : List UInt8) : Lx.free (c :: t) :=
 ⟨Lx.hp_ne _ _ _ _ (Lx.wordy_ne h (by decide)), Lx.hp_ne _ _ _ _ (Lx.wordy_ne h (by decide)), Lx.hp_ne _ _ _ _ (Lx.wordy_ne h (by decide))⟩
theorem toks_length (l : List Tok) : (toks l).length = l.length * 4 := by
 induction l with
 | nil => rfl
 | cons t l ih =>
  have : toks (t :: l) = tokv t ++ toks l := rfl
  rw [this, List.length_append, ih]
  simp [tokv]; omega
theorem toks_append (a b : List Tok) : toks (a ++ b) = toks a ++ toks b := by simp [toks]
theorem toks_get (l : List Tok) (j : Nat) (t : Tok) (h : l[j]? = some t) (f : Nat) (hf : f < 4) : (toks l)[j * 4 + f]? = (tokv t)[f]? := by
 induction l generalizing j with
 | nil => simp at h
 | cons x l ih =>
  have e : toks (x :: l) = tokv x ++ toks l := rfl
  have e4 : (tokv x).length = 4 := rfl
  rw [e]
  cases j with
  | zero =>
   simp at h; subst h
   rw [List.getElem?_append_left (by omega)]
   simp
  | succ j =>
   simp at h
   rw [List.getElem?_append_right (by omega), e4, show (j + 1) * 4 + f - 4 = j * 4 + f from by omega]
   exact ih j h
/-- The scanner, its tokens in a row of the call's own. -/
def ScS (W : World) (g B : Nat) (s : List UInt8) (at_ en : Nat) (l : List Tok) : Prop :=
 ∃ tv, ScRow W g s at_ en tv ∧ W.ownsRow B 132 4 tv l.length (toks l) ∧ g < B
theorem own_form {w : World} {B : Nat} {e : TypeId} {z : Nat} {v : Value} {n : Nat} {xs : List Value} (h : w.ownsRow B e z v n xs) : ∃ ao cap, v = .slice ao n cap ∧ (n ≠ 0 → ∃ k, ao = some ⟨k, 0, none⟩ ∧ ∀ j x, xs[j]? = some x → w.cell? ⟨k, j, none⟩ = some x) := by
 have h0 := h
 rcases h.2 with ⟨rfl, rfl⟩ | ⟨g, cap, cur, rfl, r⟩
 ·exact ⟨none, 0, rfl, fun h => absurd rfl h⟩
 ·refine ⟨_, cap, rfl, fun _ => ⟨g, rfl, fun j x hx => ?_⟩⟩
  have := h0.cells (g := g) rfl j x hx
  rw [show (⟨g, 0, none⟩ : Addr).add j = ⟨g, j, none⟩ from by cases j <;> simp [Addr.add]] at this
  exact this
theorem touches_any (g B : Nat) (s : List UInt8) (at_ en : Nat) (l : List Tok) (w : World) (h : ScS w g B s at_ en l) (hl : l = [] ∨ en ≠ at_) (hn : l.length ≤ 1000) (hk : ∀ t ∈ l, t.kind = 1) :
  Calls Tryz.prog 89 #[.pointer (some ⟨g, 0, none⟩)] w fun e w' => e = .returned (.bool false) ∧ Below w.heap.size w w' := by
 obtain ⟨tv, hr, hown, hgB⟩ := h
 obtain ⟨⟨r0, r1, r2, r3, r4, r5, r6⟩, _⟩ := hr.reads
 obtain ⟨ao, cap, rfl, hc⟩ := own_form hown
 have HB := lh (fun (n : Nat) => show Below w.heap.size w (w.drewN n) from below_drewN w n)
 by_cases h0 : l.length = 0
 ·rw [h0] at r2
  clear hc hown hr hl hn h0 hk
  go_enter Tryz.func89, Tryz.ntmps89
  go_upto_region 2 with fail
  go_quiet (fail)
  go_wp2_with fail
  go_ret
  exact ⟨rfl, HB.out _⟩
 ·obtain ⟨k, rfl, hcell⟩ := hc h0
  have hne : ((en : Int) == (at_ : Int)) = false := by
   rcases hl with rfl | hl
   ·exact absurd rfl h0
   ·simp only [beq_eq_false_iff_ne, ne_eq]; omega
  obtain ⟨n, hn2⟩ : ∃ n, l.length = n + 1 := ⟨l.length - 1, by omega⟩
  obtain ⟨t, ht⟩ : ∃ t, l[n]? = some t := ⟨l[n]'(by omega), List.getElem?_eq_getElem (by omega)⟩
  have htk : t.kind = 1 := hk t (List.mem_of_getElem? ht)
  have c0 : w.cell? ⟨k, n * 4, none⟩ = some (.int .i64 1) := by
   rw [← htk]
   exact hcell (n * 4) _ (by have := toks_get l n t ht 0 (by omega); simpa [tokv] using this)
  rw [hn2] at r2 hn
  have i1 : (0 : Int) < ((n + 1 : Nat) : Int) := by omega
  have i2 : IntKind.i64.wrap (n : Int) = (n : Int) := IntWalk.i64_in _ (by omega)
  have i3 : (0 : Int) ≤ (n : Int) := by omega
  have i4 : (n : Int) < (n : Int) + 1 := by omega
  have i5 : (n : Int) ≤ 1000 := by omega
  clear hcell hown hr hl hc h0 ht hn2 hk htk
  go_enter Tryz.func89, Tryz.ntmps89
  go_upto_region 2 with fail
  go_quiet (fail)
  go_wp2_with fail
  go_ret
  exact ⟨rfl, HB.out _⟩
def Lx.signs : List UInt8 := [59, 38, 40, 41, 123, 125, 61, 94, 96, 36, 33, 64]
theorem Lx.wordy_signs {c : UInt8} (h : Lx.wordy c = true) : Lx.signs.contains c = false := by
 rw [Bool.eq_false_iff]
 intro h2
 rw [List.contains_iff_mem] at h2
 have : ∀ d ∈ Lx.signs, Lx.wordy d = false := by decide
 exact Lx.wordy_ne h (this c h2) rfl
theorem symbol_none (g : Nat) (s : List UInt8) (at_ en : Nat) (tv : Value) (w : World) (c : UInt8) (t : List UInt8) (h : ScRow w g s at_ en tv) (ha : at_ ≤ s.length) (hs : s.length ≤ 10000) (hd : s.drop at_ = c :: t) (hc : Lx.wordy c = true) :
  Calls Tryz.prog 90 #[.pointer (some ⟨g, 0, none⟩)] w fun e w' => e = .returned (.tuple #[.string (T []), .bool true]) ∧ Below w.heap.size w w' := by
 have HR := lh (rest_any g s at_ en tv w h ha hs)
 rw [hd] at HR
 have n1 := Lx.hp_ne c t 38 [38] (Lx.wordy_ne hc (by decide))
 have n2 := Lx.hp_ne c t 124 [124] (Lx.wordy_ne hc (by decide))
 have n3 := Lx.hp_ne c t 36 [35] (Lx.wordy_ne hc (by decide))
 have n4 := Lx.hp_ne c t 62 [62] (Lx.wordy_ne hc (by decide))
 have n5 := Lx.hp_ne c t 62 [] (Lx.wordy_ne hc (by decide))
 have n6 := Lx.hp_ne c t 60 [] (Lx.wordy_ne hc (by decide))
 have n7 := Lx.hp_ne c t 124 [] (Lx.wordy_ne hc (by decide))
 have P1 := lh (fun (W : World) => hp_any (c :: t) [38, 38] W)
 have P2 := lh (fun (W : World) => hp_any (c :: t) [124, 124] W)
 have P3 := lh (fun (W : World) => hp_any (c :: t) [36, 35] W)
 have P4 := lh (fun (W : World) => hp_any (c :: t) [62, 62] W)
 have P5 := lh (fun (W : World) => hp_any (c :: t) [62] W)
 have P6 := lh (fun (W : World) => hp_any (c :: t) [60] W)
 have P7 := lh (fun (W : World) => hp_any (c :: t) [124] W)
 rw [n1] at P1
 rw [n2] at P2
 rw [n3] at P3
 rw [n4] at P4
 rw [n5] at P5
 rw [n6] at P6
 rw [n7] at P7
 have hx := Lx.index_lt Lx.signs c
 rw [Lx.wordy_signs hc] at hx
 have HI := lh (show ∀ (W : World), Calls Tryz.prog 38 #[.string (T [59, 38, 40, 41, 123, 125, 61, 94, 96, 36, 33, 64]), .int .u8 (c.toNat : Int)] W fun e w' => e = .returned (.int .i64 (Lib.indexByte Lx.signs c)) ∧ w' = W from fun W => by
  have := strings_IndexByte (T Lx.signs) (c.toNat : Int) W
  rw [show ((c.toNat : Int)).toNat.toUInt8 = c from by simp] at this
  exact this)
 generalize Lib.indexByte Lx.signs c = ix at *
 have hx2 : ix < 0 := of_decide_eq_true hx
 have hg : ∀ h, (T (c :: t))[0]'h = c := fun _ => rfl
 have h0 : ((T (c :: t)).size : Int) = (t.length : Int) + 1 := by rw [T_size]; simp
 clear h ha hs hd hc n1 n2 n3 n4 n5 n6 n7 hx
 go_enter Tryz.func90, Tryz.ntmps90
 go_wp2_with fail
 (with_reducible refine HR.out.mono ?_); rintro e w1 ⟨rfl, b1⟩
 have HB1 := lh b1
 clear b1 HR
 go_wp2_with fail
 have HB2 := lh (HB1.out.alloc HB1.out.size (.cells #[.string (T [38, 38]), .string (T [124, 124]), .string (T [36, 35])] 9))
 clear HB1
 refine wp_loop_rounds 4 ?_
 rw [rounds_succ]
 go_wp2_with fail
 (with_reducible refine (P1.out _).mono ?_); rintro e wx ⟨rfl, rfl⟩
 go_wp2_with fail
 rw [rounds_succ]
 go_wp2_with fail
 (with_reducible refine (P2.out _).mono ?_); rintro e wx ⟨rfl, rfl⟩
 go_wp2_with fail
 rw [rounds_succ]
 go_wp2_with fail
 (with_reducible refine (P3.out _).mono ?_); rintro e wx ⟨rfl, rfl⟩
 go_wp2_with fail
 rw [rounds_succ]
 go_wp2_with fail
 (with_reducible refine (HI.out _).mono ?_); rintro e wx ⟨rfl, rfl⟩
 go_wp2_with fail
 have HB3 := lh (HB2.out.alloc HB2.out.size (.cells #[.string (T [62, 62]), .string (T [62]), .string (T [60]), .string (T [124])] 9))
 clear HB2
 refine wp_loop_rounds 5 ?_
 rw [rounds_succ]
 go_wp2_with fail
 (with_reducible refine (P4.out _).mono ?_); rintro e wx ⟨rfl, rfl⟩
 go_wp2_with fail
 rw [rounds_succ]
 go_wp2_with fail
 (with_reducible refine (P5.out _).mono ?_); rintro e wx ⟨rfl, rfl⟩
 go_wp2_with fail
 rw [rounds_succ]
 go_wp2_with fail
 (with_reducible refine (P6.out _).mono ?_); rintro e wx ⟨rfl, rfl⟩
 go_wp2_with fail
 rw [rounds_succ]
 go_wp2_with fail
 (with_reducible refine (P7.out _).mono ?_); rintro e wx ⟨rfl, rfl⟩
 go_wp2_with fail
 rw [rounds_succ]
 go_wp2_with fail
 go_ret2
 exact ⟨rfl, HB3.out⟩
theorem ScRow.alloc {w : World} {g : Nat} {s : List UInt8} {at_ en : Nat} {tv : Value} (h : ScRow w g s at_ en tv) (o : Obj) : ScRow (w.alloc o) g s at_ en tv :=
 (Lib.alloc_old w o g (row_ltP h)).trans h
theorem ScRow.setToks {w : World} {g : Nat} {s : List UInt8} {at_ en : Nat} {tv : Value} (h : ScRow w g s at_ en tv) (v : Value) : ScRow (w.setCell ⟨g, 2, none⟩ v) g s at_ en v :=
 heap_setCell_same w g 2 _ _ v h
theorem own_not {w : World} {B : Nat} {e : TypeId} {z : Nat} {v : Value} {n : Nat} {xs : List Value} (h : w.ownsRow B e z v n xs) {g : Nat} (hg : g < B) : v.ownBlock ≠ some g := by
 intro e
 have := (h.lt g e).1
 omega
theorem tokv_one (t : Tok) : ∀ u ∈ tokv t, u.oneCell' = true := by
 intro u hu
 simp only [tokv, List.mem_cons, List.not_mem_nil, or_false] at hu
 rcases hu with rfl | rfl | rfl | rfl <;> rfl
theorem append_tok (g B : Nat) (s : List UInt8) (at_ en : Nat) (l : List Tok) (t : Tok) (w : World) (h : ScS w g B s at_ en l) (hn : l.length ≤ 1000) (hB : B ≤ w.heap.size) :
  Calls Tryz.prog 84 #[.pointer (some ⟨g, 0, none⟩), .agg #[.int .i64 t.kind, .int .i64 (t.pos : Int), .string (T t.text), .string (T t.quoted)]] w fun e w' => e = .returned (.bool true) ∧ ScS w' g B s at_ en (l ++ [t]) ∧ Below g w w' := by
 obtain ⟨i0, hi, hz0, hz1, hz2⟩ := info_parts (P := Tryz.prog) (e := 132) (z := .agg #[.int .i64 0, .int .i64 0, .string ByteArray.empty, .string ByteArray.empty]) (size := 4) (bytes := 48) (by kernel_rfl)
 obtain ⟨tv, hr, hown, hgB⟩ := h
 obtain ⟨ao, cap, rfl, _⟩ := own_form hown
 have hgl := row_ltP hr
 have HS := lh (hr.alloc (.cells #[.int .i64 t.kind, .int .i64 (t.pos : Int), .string (T t.text), .string (T t.quoted)] 132))
 have HO := lh (hown.alloc (.cells #[.int .i64 t.kind, .int .i64 (t.pos : Int), .string (T t.text), .string (T t.quoted)] 132))
 have HW := lh (show Below g w (w.alloc (.cells #[.int .i64 t.kind, .int .i64 (t.pos : Int), .string (T t.text), .string (T t.quoted)] 132)) from (Below.refl g w).alloc (by omega) _)
 have HN := lh (heap_alloc_new w (.cells #[.int .i64 t.kind, .int .i64 (t.pos : Int), .string (T t.text), .string (T t.quoted)] 132))
 have hsz : B ≤ (w.alloc (.cells #[.int .i64 t.kind, .int .i64 (t.pos : Int), .string (T t.text), .string (T t.quoted)] 132)).heap.size := by simp; omega
 have hb1 : ¬ (1024 : Int) ≤ (l.length : Int) := by omega
 obtain ⟨⟨r0, r1, r2, r3, r4, r5, r6⟩, _⟩ := HS.out.reads
 have HSZ := lh hsz
 clear hr hown hsz
 go_enter Tryz.func84, Tryz.ntmps84
 go_upto_region 3 with fail
 generalize hw1 : w.alloc _ = w1 at *
 have e0 : w1.cell? ⟨w.heap.size, 0, none⟩ = some (.int .i64 t.kind) := by rw [Lib.cell_of_heap HN.out]; rfl
 have e1 : w1.cell? ⟨w.heap.size, 1, none⟩ = some (.int .i64 (t.pos : Int)) := by rw [Lib.cell_of_heap HN.out]; rfl
 have e2 : w1.cell? ⟨w.heap.size, 2, none⟩ = some (.string (T t.text)) := by rw [Lib.cell_of_heap HN.out]; rfl
 have e3 : w1.cell? ⟨w.heap.size, 3, none⟩ = some (.string (T t.quoted)) := by rw [Lib.cell_of_heap HN.out]; rfl
 have hgw1 : g < w1.heap.size := row_ltP HS.out
 have HWS := lh (show B + 1 ≤ w1.heap.size from by rw [← hw1]; simp; omega)
 have ra : (w1.alloc (.cells #[.int .i64 t.kind, .int .i64 (t.pos : Int), .string (T t.text), .string (T t.quoted)] 132)).cell? ⟨g, 2, none⟩ = some (.slice ao l.length cap) := (HS.out.alloc _).reads.1.2.2.1
 clear hw1
 go_region_law (refine step_append_any (by rfl) _ _ _ (by rfl) B 132 i0 (.agg #[.int .i64 0, .int .i64 0, .string ByteArray.empty, .string ByteArray.empty]) 4 48 Tryz.underlying58 hi hz0 hz1 hz2 rfl (by decide) (.slice ao l.length cap) l.length (toks l) (by rfl) ((HO.out.alloc _).drew) (some ⟨w1.heap.size, 0, none⟩) 1 1 (tokv t) (by rfl) (by intro h; cases h) (by rfl) (by intro ad had; cases had; exact World.news_of_block (t := 132) (fr := (0, 0)) (heap_alloc_new w1 _)) (tokv_one t) (by unfold maxLen; omega) (by omega) (by have := HWS.out; simp; omega) ?_; intro v' w2 hown2 hgrow2 hloc2; obtain ⟨ao2, cap2, rfl, _⟩ := own_form hown2; have hrow2 := (hgrow2.block g (by have := HWS.out; simp; omega) (fun e => own_not HO.out hgB e.symm)).trans (HS.out.alloc _); have c2 := (ScRow.reads hrow2).1.2.2.1; have f2 := (ScRow.reads hrow2).2.2.1)
 all_goals go_wp2_with fail
 all_goals go_ret
 all_goals
  refine ⟨rfl, ⟨_, ScRow.setToks hrow2 _, ?_, hgB⟩, ?_⟩
  ·have := hown2.kept (grown_setG (below_grownBy (Below.refl w2.heap.size w2) (some g)) 2 (.slice ao2 (l.length + 1) cap2)) (Or.inr (own_not hown2 hgB))
   rw [toks_append]
   simpa [toks] using this
  ·exact ((((HW.out.alloc (by omega) _).drew).grown hgrow2 (by have := HWS.out; simp; omega) (fun k hk => by have := (HO.out.lt k hk).1; omega)).setCell (p := ⟨g, 2, none⟩) (Nat.le_refl _) _)
theorem own_next {w w' : World} {base : Nat} {e : TypeId} {size n : Nat} {v : Value} {xs : List Value} (h : w.ownsRow base e size v n xs) (hb : Below w.heap.size w w') : w'.ownsRow base e size v n xs := by
 refine ⟨h.1, ?_⟩
 rcases h.2 with h | ⟨g, cap, cur, hv, hg, hrow, hrest⟩
 ·exact .inl h
 ·exact .inr ⟨g, cap, cur, hv, hg, (hb.block g (row_ltP hrow)).trans hrow, hrest⟩
theorem ScS.next {w w' : World} {g B : Nat} {s : List UInt8} {at_ en : Nat} {l : List Tok} (h : ScS w g B s at_ en l) (hb : Below w.heap.size w w') : ScS w' g B s at_ en l := by
 obtain ⟨tv, h1, h2, h3⟩ := h
 exact ⟨tv, h1.next hb, own_next h2 hb, h3⟩
theorem below_of_grown {w w' : World} {g : Nat} (hg : w.grownBy w' (some g)) (hl : g < w.heap.size) : Below g w w' :=
 ⟨hg.os, hg.tape, hg.output, hg.size, fun i hi => hg.block i (by omega) (fun e => by cases e; omega)⟩
theorem ScS.lt {w : World} {g B : Nat} {s : List UInt8} {at_ en : Nat} {l : List Tok} (h : ScS w g B s at_ en l) : g < w.heap.size := by
 obtain ⟨tv, h1, _⟩ := h
 exact row_ltP h1
theorem add_tok (g B : Nat) (s : List UInt8) (at_ en : Nat) (l : List Tok) (t : Tok) (w : World) (h : ScS w g B s at_ en l) (hn : l.length ≤ 1000) (hB : B ≤ w.heap.size) (ht : t.kind = 1) :
  Calls Tryz.prog 91 #[.pointer (some ⟨g, 0, none⟩), .agg #[.int .i64 1, .int .i64 (t.pos : Int), .string (T t.text), .string (T t.quoted)], .bool false] w fun e w' => e = .returned (.bool true) ∧ ScS w' g B s at_ en (l ++ [t]) ∧ Below g w w' := by
 have hgl := h.lt
 have HW := lh (show Below w.heap.size w (w.alloc (.cells #[.int .i64 1, .int .i64 (t.pos : Int), .string (T t.text), .string (T t.quoted)] 132)) from (Below.refl _ w).alloc (Nat.le_refl _) _)
 have HA := lh (append_tok g B s at_ en l t _ (h.next HW.out) hn (by simp; omega))
 rw [ht] at HA
 clear h
 go_enter Tryz.func91, Tryz.ntmps91
 go_wp2_with fail
 (with_reducible refine HA.out.mono ?_); rintro e w1 ⟨rfl, hs1, b1⟩
 have HS := lh hs1
 have HB := lh (show Below g w w1 from (HW.out.mono (by omega)).trans b1)
 clear hs1 b1
 go_wp2_with fail
 go_ret
 exact ⟨rfl, HS.out, HB.out⟩
theorem token_any (g B : Nat) (s v tl : List UInt8) (at_ en : Nat) (l : List Tok) (w : World) (h : ScS w g B s at_ en l) (hl : l = [] ∨ en ≠ at_) (hk : ∀ t ∈ l, t.kind = 1) (hn : l.length ≤ 1000) (hB : B ≤ w.heap.size) (ha : at_ ≤ s.length) (hs : s.length ≤ 10000) (hd : s.drop at_ = Lx.quote v ++ tl) (htl : Lx.stop tl) :
  Calls Tryz.prog 42 #[.pointer (some ⟨g, 0, none⟩)] w fun e w' => e = .returned (.bool true) ∧ ScS w' g B s (s.length - tl.length) en (l ++ [⟨1, at_, v, Lx.marks v⟩]) ∧ Below g w w' := by
 have hgl := h.lt
 have HT := lh (touches_any g B s at_ en l w h hl hn hk)
 obtain ⟨c, r, hq, hc⟩ := Lx.quote_head v
 have HY := lh (fun (W : World) (tv : Value) (h : ScRow W g s at_ en tv) => symbol_none g s at_ en tv W c (r ++ tl) h ha hs (by rw [hd, hq]; rfl) hc)
 have HWd := lh (fun (W : World) (tv : Value) (h : ScRow W g s at_ en tv) => word_any g s v tl at_ en tv W h ha hs hd htl)
 have HAd := lh (fun (W : World) (h : ScS W g B s (s.length - tl.length) en l) hB => add_tok g B s (s.length - tl.length) en l ⟨1, at_, v, Lx.marks v⟩ W h hn hB rfl)
 have HS := lh h
 obtain ⟨tv, hr, hown, hgB⟩ := h
 obtain ⟨⟨r0, r1, _⟩, _⟩ := hr.reads
 have HN := lh hB
 clear hr hown hl hk hn hB ha hs hd htl hq hc
 go_enter Tryz.func42, Tryz.ntmps42
 go_wp2_with fail
 (with_reducible refine HT.out.mono ?_); rintro e w1 ⟨rfl, b1⟩
 have HS1 := lh (HS.out.next b1)
 have HB1 := lh b1
 clear b1 HS HT r0 r1
 go_wp2_with fail
 obtain ⟨tv1, hr1, hown1, _⟩ := HS1.out
 (with_reducible refine (HY.out _ _ hr1).mono ?_); rintro e w2 ⟨rfl, b2⟩
 have HS2 := lh (HS1.out.next b2)
 have HB2 := lh (bnext HB1.out b2)
 clear b2 hr1 hown1 HS1 HB1 HY
 go_wp2_with fail
 obtain ⟨tv2, hr2, hown2, _⟩ := HS2.out
 (with_reducible refine (HWd.out _ _ hr2).mono ?_); rintro e w3 ⟨rfl, hr3, g3⟩
 have HS3 := lh (show ScS w3 g B s (s.length - tl.length) en l from ⟨tv2, hr3, hown2.kept g3 (Or.inr (own_not hown2 hgB)), hgB⟩)
 have HB3 := lh (show Below g w w3 from (HB2.out.mono (by omega)).trans (below_of_grown g3 (row_ltP hr2)))
 have HN3 := lh (show B ≤ w3.heap.size from Nat.le_trans HN.out HB3.out.size)
 clear hr2 hown2 hr3 g3 HS2 HB2 HWd
 go_wp2_with fail
 (with_reducible refine (HAd.out _ HS3.out HN3.out).mono ?_); rintro e w4 ⟨rfl, hs4, b4⟩
 have HS4 := lh hs4
 have HB4 := lh (HB3.out.trans b4)
 clear hs4 b4
 go_wp2_with fail
 go_ret
 exact ⟨rfl, HS4.out, HB4.out⟩
/-- Words, a blank ahead of each. -/
def Lx.tail : List (List UInt8) → List UInt8
 | [] => []
 | v :: vs => 32 :: (Lx.quote v ++ Lx.tail vs)
/-- Words, a blank between any two. -/
def Lx.prog : List (List UInt8) → List UInt8
 | [] => []
 | v :: vs => Lx.quote v ++ Lx.tail vs
theorem Lx.stop_tail (ws : List (List UInt8)) : Lx.stop (Lx.tail ws) := by
 cases ws with
 | nil => exact .inl rfl
 | cons v vs => exact .inr ⟨_, rfl⟩
def Tok.key (t : Tok) : Int × List UInt8 × List UInt8 := (t.kind, t.text, t.quoted)
def Lx.key (v : List UInt8) : Int × List UInt8 × List UInt8 := (1, v, Lx.marks v)
theorem u8_ne {c d : UInt8} (h : c ≠ d) : ((c.toNat : Int) == (d.toNat : Int)) = false := by
 rw [beq_eq_false_iff_ne]
 intro e
 exact h (UInt8.toNat_inj.1 (by omega))
theorem ScRow.setEnd {w : World} {g : Nat} {s : List UInt8} {at_ en : Nat} {tv : Value} (h : ScRow w g s at_ en tv) (n : Nat) : ScRow (w.setCell ⟨g, 4, none⟩ (.int .i64 (n : Int))) g s at_ n tv :=
 heap_setCell_same w g 4 _ _ (.int .i64 (n : Int)) h
theorem blanks_any (g : Nat) (s pre r : List UInt8) (at_ en : Nat) (tv : Value) (w : World) (h : ScRow w g s at_ en tv) (ha : at_ ≤ s.length) (hs : s.length ≤ 10000) (hp : pre = [] ∨ pre = [32]) (hd : s.drop at_ = pre ++ r) (hf : Lx.free r) :
  Calls Tryz.prog 36 #[.pointer (some ⟨g, 0, none⟩)] w fun e w' => e = .returned (.tuple #[]) ∧ ScRow w' g s (at_ + pre.length) en tv ∧ w.grownBy w' (some g) := by
 rcases hp with rfl | rfl
 ·refine (blanks_none g s at_ en tv w h ha hs (by rw [hd]; exact hf)).mono ?_
  rintro e w' ⟨rfl, hb⟩
  exact ⟨rfl, h.next hb, below_grownBy hb (some g)⟩
 ·have hl : at_ + 1 ≤ s.length := by
   have := congrArg List.length hd
   simp at this
   omega
  exact blanks_one g s at_ en tv w h hl hs (by rw [hd, List.singleton_append, hasPrefix_cons]; rfl) (by rw [show s.drop (at_ + 1) = r from drop_of s at_ [32] r hd]; exact hf)
theorem drop_tail (s : List UInt8) (a : Nat) (p tl : List UInt8) (h : s.drop a = p ++ tl) (ha : a ≤ s.length) : s.drop (s.length - tl.length) = tl := by
 have e1 := drop_of s a p tl h
 have e2 := congrArg List.length h
 rw [List.length_drop, List.length_append] at e2
 rw [show s.length - tl.length = a + p.length from by omega]
 exact e1
/-- The state ahead of a round: the words ws' are to come. -/
def SnSt (w0 : World) (g B : Nat) (s : List UInt8) (ws : List (List UInt8)) (k : Nat) (W : World) : Prop :=
 ∃ at_ en l pre ws' r, ScS W g B s at_ en l ∧ at_ ≤ s.length ∧ s.drop at_ = pre ++ r ∧ (pre = [] ∨ pre = [32]) ∧ (l = [] ∨ pre = [32] ∨ ws' = []) ∧ r = Lx.prog ws' ∧ l.map Tok.key ++ ws'.map Lx.key = ws.map Lx.key ∧ Below w0.heap.size w0 W ∧ B ≤ W.heap.size ∧ k = ws'.length ∧ (∀ t ∈ l, t.kind = 1) ∧ (ws' = [] → pre = [])
theorem snst_next {ws' : List (List UInt8)} : ∃ pre, Lx.tail ws' = pre ++ Lx.prog ws' ∧ (pre = [] ∨ pre = [32]) ∧ (pre = [32] ∨ ws' = []) ∧ (ws' = [] → pre = []) := by
 cases ws' with
 | nil => exact ⟨[], rfl, .inl rfl, .inr rfl, fun _ => rfl⟩
 | cons v vs => exact ⟨[32], rfl, .inr rfl, .inl rfl, fun h => by cases h⟩
theorem scan_any (ws : List (List UInt8)) (w : World) (hw : ws.length ≤ 900) (hs : (Lx.prog ws).length ≤ 10000) :
  Calls Tryz.prog 15 #[.string (T (Lx.prog ws))] w fun e w' => ∃ l tv, e = .returned (.tuple #[tv, .int .i64 0, .int .i64 0]) ∧ w'.ownsRow (w.heap.size + 1) 132 4 tv l.length (toks l) ∧ l.map Tok.key = ws.map Lx.key ∧ Below w.heap.size w w' := by
 have hb0 : ¬ (65536 : Int) < ((Lx.prog ws).length : Int) := by omega
 have hsz : (T (Lx.prog ws)).size = (Lx.prog ws).length := T_size _
 have HB0 := lh (show Below w.heap.size w (w.alloc (.cells #[.string (T (Lx.prog ws)), .int .i64 0, .slice none 0 0, .slice none 0 0, .int .i64 0, .int .i64 0, .int .i64 0] 95)) from (Below.refl _ w).alloc (Nat.le_refl _) _)
 have HS0 := lh (show ScS (w.alloc (.cells #[.string (T (Lx.prog ws)), .int .i64 0, .slice none 0 0, .slice none 0 0, .int .i64 0, .int .i64 0, .int .i64 0] 95)) w.heap.size (w.heap.size + 1) (Lx.prog ws) 0 0 [] from ⟨.slice none 0 0, heap_alloc_new w _, ⟨rfl, .inl ⟨rfl, rfl⟩⟩, Nat.lt_succ_self _⟩)
 have HN0 := lh (show w.heap.size + 1 ≤ (w.alloc (.cells #[.string (T (Lx.prog ws)), .int .i64 0, .slice none 0 0, .slice none 0 0, .int .i64 0, .int .i64 0, .int .i64 0] 95)).heap.size from by simp)
 have A := lh (And.intro hs hw)
 have HP := lh (show ∃ r, r = Lx.prog ws from ⟨_, rfl⟩)
 clear hs hw
 generalize hsp : Lx.prog ws = s at *
 have HSP := lh hsp
 clear hsp
 go_enter Tryz.func15, Tryz.ntmps15
 go_wp2_with fail
 generalize World.alloc _ _ = w1 at *
 go_loopg [] ws.length (fun k W => SnSt w w.heap.size (w.heap.size + 1) s ws k W)
 case atStart =>
  exact ⟨0, 0, [], [], ws, s, HS0.out, Nat.zero_le _, rfl, .inl rfl, .inl rfl, HSP.out.symm, rfl, HB0.out, HN0.out, rfl, ⟨fun t ht => absurd ht List.not_mem_nil, fun _ => rfl⟩⟩
 case round =>
  obtain ⟨at_, en, l, pre, ws', r, hsc, hle, hd, hpre, hlp, hr, hkey, hbw, hBs, hk, hk1, hpe⟩ := hrel
  have hgl := hsc.lt
  have hs := A.out.1
  obtain ⟨tv, hro, hown, hgB⟩ := hsc
  obtain ⟨⟨r0, r1, r2, r3, r4, r5, r6⟩, f1, f2, f4⟩ := hro.reads
  have HE := lh (hro.setEnd at_)
  have HO := lh (hown.kept (grown_setG (below_grownBy (Below.refl wr.heap.size wr) (some w.heap.size)) 4 (.int .i64 (at_ : Int))) (Or.inr (own_not hown hgB)))
  have HB := lh (show Below w.heap.size w (wr.setCell ⟨w.heap.size, 4, none⟩ (.int .i64 (at_ : Int))) from hbw.setCell (p := ⟨w.heap.size, 4, none⟩) (Nat.le_refl _) _)
  have HN := lh (show w.heap.size + 1 ≤ (wr.setCell ⟨w.heap.size, 4, none⟩ (.int .i64 (at_ : Int))).heap.size from by simpa using hBs)
  have HLEN : RowKit.Hid (l.length + ws'.length = ws.length) := lh (by have := congrArg List.length hkey; simpa using this)
  cases ws' with
  | nil =>
   have hp0 := hpe rfl
   subst hp0
   have hr0 : r = [] := hr
   subst hr0
   have HBL := lh (fun (W : World) (h : ScRow W w.heap.size s at_ at_ tv) => blanks_any w.heap.size s [] [] at_ at_ tv W h hle hs (.inl rfl) hd ⟨rfl, rfl, rfl⟩)
   have HR := lh (fun (W : World) (h : ScRow W w.heap.size s at_ at_ tv) => rest_any w.heap.size s at_ at_ tv W h hle hs)
   rw [hd] at HR
   have HK := lh hkey
   have HF := lh (show Below w.heap.size w wr from hbw)
   clear hown hro hd hk hk1 hkey hbw hpre hlp hr hpe
   go_wp2_with fail
   clear r0 r1 r2 r3 r4 r5 r6 f1 f2 f4
   generalize World.setCell _ _ _ = w2 at *
   (with_reducible refine (HBL.out _ HE.out).mono ?_); rintro e w3 ⟨rfl, hr3, g3⟩
   have HE3 := lh hr3
   have HO3 := lh (HO.out.kept g3 (Or.inr (own_not HO.out hgB)))
   have HB3 := lh (HB.out.trans (below_of_grown g3 (row_ltP HE.out)))
   clear hr3 g3 HE HO HB HN
   go_wp2_with fail
   (with_reducible refine (HR.out _ HE3.out).mono ?_); rintro e w4 ⟨rfl, b4⟩
   have HE4 := lh (HE3.out.next b4)
   have HO4 := lh (own_next HO3.out b4)
   have HB4 := lh (bnext HB3.out b4)
   clear b4 HE3 HO3 HB3
   obtain ⟨⟨r0, r1, r2, r3, r4, r5, r6⟩, f1, f2, f4⟩ := HE4.out.reads
   go_wp2_with fail
   go_ret3
   exact ⟨l, tv, rfl, HO4.out, by have := HK.out; simpa using this, HB4.out⟩
  | cons v vs =>
   obtain ⟨c, q, hq, hc⟩ := Lx.quote_head v
   have hrc : r = c :: (q ++ Lx.tail vs) := by rw [hr]; show Lx.quote v ++ Lx.tail vs = _; rw [hq]; rfl
   have hal : at_ + pre.length ≤ s.length := by
    have := congrArg List.length hd
    rw [List.length_drop, List.length_append, hrc] at this
    simp at this
    omega
   have hd2 : s.drop (at_ + pre.length) = r := drop_of s at_ pre r hd
   have HBL := lh (fun (W : World) (h : ScRow W w.heap.size s at_ at_ tv) => blanks_any w.heap.size s pre r at_ at_ tv W h hle hs hpre hd (by rw [hrc]; exact Lx.free_wordy hc _))
   have HR := lh (fun (W : World) (h : ScRow W w.heap.size s (at_ + pre.length) at_ tv) => rest_any w.heap.size s (at_ + pre.length) at_ tv W h hal hs)
   rw [hd2, hrc] at HR
   have HTK := lh (fun (W : World) (h : ScS W w.heap.size (w.heap.size + 1) s (at_ + pre.length) at_ l) hB => token_any w.heap.size (w.heap.size + 1) s v (Lx.tail vs) (at_ + pre.length) at_ l W h (by
    rcases hlp with h | h | h
    ·exact .inl h
    ·refine .inr ?_
     rw [h]; simp
    ·cases h) hk1 (by have := HLEN.out; have := A.out.2; omega) hB hal hs (by rw [hd2, hr]; rfl) (Lx.stop_tail vs))
   have HDT := lh (drop_tail s (at_ + pre.length) (Lx.quote v) (Lx.tail vs) (by rw [hd2, hr]; rfl) hal)
   have HPX := lh (fun (W : World) => hp_any (c :: (q ++ Lx.tail vs)) [60, 60] W)
   rw [Lx.hp_ne c _ 60 [60] (Lx.wordy_ne hc (by decide))] at HPX
   have hg : ∀ h, (T (c :: (q ++ Lx.tail vs)))[0]'h = c := fun _ => rfl
   have h0 : ((T (c :: (q ++ Lx.tail vs))).size : Int) = ((q ++ Lx.tail vs).length : Int) + 1 := by rw [T_size]; simp
   have h35 : ((c.toNat : Int) == 35) = false := u8_ne (d := 35) (Lx.wordy_ne hc (by decide))
   have h10 : ((c.toNat : Int) == 10) = false := u8_ne (d := 10) (Lx.wordy_ne hc (by decide))
   have HK := lh (And.intro hkey (And.intro hk hk1))
   clear hown hro hd hd2 hk hk1 hkey hbw hpre hlp hr hpe hrc hq hc hal
   generalize q ++ Lx.tail vs = qq at *
   go_wp2_with fail
   clear r0 r1 r2 r3 r4 r5 r6 f1 f2 f4
   generalize World.setCell _ _ _ = w2 at *
   (with_reducible refine (HBL.out _ HE.out).mono ?_); rintro e w3 ⟨rfl, hr3, g3⟩
   have HE3 := lh hr3
   have HO3 := lh (HO.out.kept g3 (Or.inr (own_not HO.out hgB)))
   have HB3 := lh (HB.out.trans (below_of_grown g3 (row_ltP HE.out)))
   have HN3 := lh (Nat.le_trans HN.out g3.size)
   clear hr3 g3 HE HO HB HN
   go_wp2_with fail
   (with_reducible refine (HR.out _ HE3.out).mono ?_); rintro e w4 ⟨rfl, b4⟩
   have HS4 := lh (show ScS w4 w.heap.size (w.heap.size + 1) s (at_ + pre.length) at_ l from ⟨tv, HE3.out.next b4, own_next HO3.out b4, hgB⟩)
   have HB4 := lh (bnext HB3.out b4)
   have HN4 := lh (Nat.le_trans HN3.out b4.size)
   clear b4 HE3 HO3 HB3 HN3
   go_wp2_with fail
   (with_reducible refine (HPX.out _).mono ?_); rintro e w5 ⟨rfl, rfl⟩
   go_wp2_with fail
   (with_reducible refine (HTK.out _ HS4.out HN4.out).mono ?_); rintro e w6 ⟨rfl, hs6, b6⟩
   have HS6 := lh hs6
   have HB6 := lh (HB4.out.trans b6)
   have HN6 := lh (Nat.le_trans HN4.out b6.size)
   clear hs6 b6 HS4 HB4 HN4
   go_wp2_with fail
   obtain ⟨hkey, hk, hk1⟩ := HK.out
   go_roundg vs.length
   case measure => rw [hk]; simp
   case rel =>
    obtain ⟨pre2, hp1, hp2, hp3, hp4⟩ := snst_next (ws' := vs)
    refine ⟨s.length - (Lx.tail vs).length, at_, l ++ [⟨1, at_ + pre.length, v, Lx.marks v⟩], pre2, vs, Lx.prog vs, HS6.out, by omega, by rw [HDT.out, hp1], hp2, .inr hp3, rfl, ?_, HB6.out, HN6.out, rfl, ?_, hp4⟩
    ·rw [← hkey]; simp [Tok.key, Lx.key]
    ·intro t ht
     rcases List.mem_append.1 ht with h | h
     ·exact hk1 t h
     ·rw [List.mem_singleton] at h; rw [h]
end Go.Proofs.YtfibaopngpfmjaaGreatDoor
