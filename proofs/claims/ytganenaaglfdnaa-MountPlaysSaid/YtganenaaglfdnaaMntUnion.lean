/- What Union, EqualUnion, SameUnion, Equal, Same return. Conditions: the slices hold the given lists; at most 10^6 elements each. -/
import Derived.Test.YtganenaaglfdnaaMntCopy
import Derived.Test.YtganenaaglfdnaaMntPlain
import Derived.Laws.StructEq
set_option linter.unusedVariables false
set_option linter.unusedSimpArgs false
namespace Go.Proofs.Ytganenaaglfdnaa
open Go.RowKit
theorem mafter2 {w w1 : World} {A B : Obj} (hb : Below ((w.alloc A).alloc B).heap.size ((w.alloc A).alloc B) w1) : w1.heap[w.heap.size]? = some A ∧ w1.heap[w.heap.size + 1]? = some B ∧ Below w.heap.size w w1 := by
  refine ⟨(hb.block _ (by simp; omega)).trans ((Lib.alloc_old _ _ _ (by simp)).trans (heap_alloc_new _ _)), (hb.block _ (by simp)).trans ?_, (((Below.refl _ _).alloc (Nat.le_refl _) _).alloc (by simp) _).trans (hb.mono (by simp; omega))⟩
  have := heap_alloc_new (w.alloc A) B
  simpa using this
theorem mafter3 {w w1 : World} {A B C : Obj} (hb : Below (((w.alloc A).alloc B).alloc C).heap.size (((w.alloc A).alloc B).alloc C) w1) : w1.heap[w.heap.size]? = some A ∧ w1.heap[w.heap.size + 1]? = some B ∧ w1.heap[w.heap.size + 2]? = some C ∧ Below w.heap.size w w1 := by
  obtain ⟨h1, h2, h3⟩ := mafter2 (w := w) (A := A) (B := B) (w1 := w1) (((Below.refl _ _).alloc (Nat.le_refl _) _).trans (hb.mono (by simp)))
  refine ⟨h1, h2, (hb.block _ (by simp)).trans ?_, h3⟩
  have := heap_alloc_new ((w.alloc A).alloc B) C
  simpa using this
theorem mafter4 {w w1 : World} {A B C D : Obj} (hb : Below ((((w.alloc A).alloc B).alloc C).alloc D).heap.size ((((w.alloc A).alloc B).alloc C).alloc D) w1) : w1.heap[w.heap.size]? = some A ∧ w1.heap[w.heap.size + 1]? = some B ∧ w1.heap[w.heap.size + 2]? = some C ∧ w1.heap[w.heap.size + 3]? = some D ∧ Below w.heap.size w w1 := by
  obtain ⟨h1, h2, h3, h4⟩ := mafter3 (w := w) (A := A) (B := B) (C := C) (w1 := w1) (((Below.refl _ _).alloc (Nat.le_refl _) _).trans (hb.mono (by simp)))
  refine ⟨h1, h2, h3, (hb.block _ (by simp)).trans ?_, h4⟩
  have := heap_alloc_new (((w.alloc A).alloc B).alloc C) D
  simpa using this
namespace Ns
theorem find_at {ms : List Mnt} {c : Chn} (h : 0 ≤ find ms c) : ∃ (k : Nat) (hk : k < ms.length), find ms c = k ∧ union ms c = (ms[k].to, true) ∧ same ms[k].fr c = true := by
  obtain ⟨a, m, b, rfl, h2, h3, h4⟩ := find_split h
  refine ⟨a.length, by simp, h2, ?_, by simpa using h3⟩
  rw [union_meet h4 h3]; simp
end Ns
/-- What Union says. -/
def UnSays (u : List Tgt × Bool) (w : World) (e : Ending) (w' : World) : Prop := ∃ a n c, e = .returned (.tuple #[.slice a n c, .bool u.2]) ∧ Tgts w' (.slice a n c) u.1 ∧ Below w.heap.size w w'
theorem un_says {u : List Tgt × Bool} {w w' : World} {a : Option Addr} {n c : Nat} {l : List Tgt} {b : Bool} (hu : u = (l, b)) (h1 : Tgts w' (.slice a n c) l) (h2 : Below w.heap.size w w') : UnSays u w (.returned (.tuple #[.slice a n c, .bool b])) w' := by
  subst hu; exact ⟨a, n, c, rfl, h1, h2⟩
set_option maxHeartbeats 1000000 in
theorem munion_any (id : Int) (r : Chn) (v : Value) (ms : List Mnt) (c : Chn) (w : World) (hv : Mnts w v ms) (hl : ms.length ≤ 1000000) (hu : ∀ m ∈ ms, m.to.length ≤ 1000000) :
    Calls Try.prog 23 #[nsv id r v, chv c] w (UnSays (Ns.union ms c) w) := by
  obtain ⟨ao, n, cp, rfl⟩ := hv.form
  obtain ⟨rfl, hat⟩ := hv.at
  have HM := Lib.hid hat
  have HFI := Lib.hid (fun (W : World) (h : Below w.heap.size w W) => find_any id r (.slice ao ms.length cp) ms c W (hv.below h) hl)
  have HU := Lib.hid hu
  have HB := Lib.hid (Below.refl w.heap.size w)
  clear hv hat hu
  unfold chv nsv at *
  rcases Int.lt_or_le (Ns.find ms c) 0 with hf | hf
  · have HF := Lib.hid (Ns.union_none hf)
    generalize Ns.find ms c = FI at *
    go_enter Try.func23, Try.ntmps23
    go_wp2_with fail
    with_reducible refine (HFI.out _ ((HB.out.alloc (Nat.le_refl _) _).alloc (by simp) _)).mono ?_; rintro e w1 ⟨rfl, b1⟩
    have HB1 := Lib.hid (mafter2 b1).2.2
    clear b1
    go_wp2_with fail
    exact bodyPost_ret (v := .tuple #[.slice none 0 0, .bool false]) (by simp [results, Try.results23, go_sem]) rfl (un_says HF.out (tgts_nil _) HB1.out)
  · obtain ⟨k, hk, e1, e2, _⟩ := Ns.find_at hf
    have HF := Lib.hid e2
    rw [e1] at HFI
    clear e1 e2 hf
    obtain ⟨b, off, rfl, hbl, cc, tv, c5, ct⟩ := HM.out k hk
    obtain ⟨ta, tn, tc, rfl⟩ := ct.form
    have HCT := Lib.hid ct
    have HTL := Lib.hid (HU.out ms[k] (List.getElem_mem hk))
    have hki : (k : Int) < ms.length := by omega
    go_enter Try.func23, Try.ntmps23
    go_wp2_with fail
    with_reducible refine (HFI.out _ ((HB.out.alloc (Nat.le_refl _) _).alloc (by simp) _)).mono ?_; rintro e w1 ⟨rfl, b1⟩
    obtain ⟨hr1, hr2, hb1⟩ := mafter2 b1
    obtain ⟨⟨q0, q1, q2, q3, q4, q5, q6⟩, _⟩ := ns_reads hr1
    have d5 := (hb1.cell (p := ⟨b, off + k * 6 + 5, none⟩) hbl).trans c5
    have HCL := Lib.hid (tclone_any (.slice ta tn tc) ms[k].to w1 (HCT.out.below hb1) HTL.out)
    have HB1 := Lib.hid hb1
    clear b1 hr1 hr2 hb1 c5 cc ct
    go_wp2_with fail
    refine HCL.out.mono ?_; rintro e w2 ⟨v2, rfl, own, b2⟩
    obtain ⟨a2, c2, rfl⟩ := own_lt own
    have HT := Lib.hid own.tgts
    have HB2 := Lib.hid (bnext HB1.out b2)
    clear own b2
    go_wp2_with fail
    exact bodyPost_ret (v := .tuple #[.slice a2 ms[k].to.length c2, .bool true]) (by simp [results, Try.results23, go_sem]) rfl (un_says HF.out HT.out HB2.out)
set_option maxHeartbeats 1000000 in
theorem rmunion_any (id : Int) (r : Chn) (v : Value) (ms : List Mnt) (c : Chn) (w : World) (hv : Mnts w v ms) (hl : ms.length ≤ 1000000) :
    Calls Try.prog 24 #[nsv id r v, chv c] w (UnSays (Ns.union ms c) w) := by
  obtain ⟨ao, n, cp, rfl⟩ := hv.form
  obtain ⟨rfl, hat⟩ := hv.at
  have HM := Lib.hid hat
  have HFI := Lib.hid (fun (W : World) (h : Below w.heap.size w W) => rmat_any id r (.slice ao ms.length cp) ms c W (hv.below h) hl)
  have HB := Lib.hid (Below.refl w.heap.size w)
  clear hv hat
  unfold chv nsv at *
  rw [show Ns.ix (fun t : Mnt => Ns.same t.fr c) ms = Ns.find ms c from rfl] at HFI
  rcases Int.lt_or_le (Ns.find ms c) 0 with hf | hf
  · have HF := Lib.hid (Ns.union_none hf)
    generalize Ns.find ms c = FI at *
    go_enter Try.func24, Try.ntmps24
    go_wp2_with fail
    with_reducible refine (HFI.out _ ((HB.out.alloc (Nat.le_refl _) _).alloc (by simp) _)).mono ?_; rintro e w1 ⟨rfl, b1⟩
    have HB1 := Lib.hid (mafter2 b1).2.2
    clear b1
    go_wp2_with fail
    exact bodyPost_ret (v := .tuple #[.slice none 0 0, .bool false]) (by simp [results, Try.results24, go_sem]) rfl (un_says HF.out (tgts_nil _) HB1.out)
  · obtain ⟨k, hk, e1, e2, _⟩ := Ns.find_at hf
    have HF := Lib.hid e2
    rw [e1] at HFI
    clear e1 e2 hf
    obtain ⟨b, off, rfl, hbl, cc, tv, c5, ct⟩ := HM.out k hk
    obtain ⟨ta, tn, tc, rfl⟩ := ct.form
    have HCT := Lib.hid ct
    have hki : (k : Int) < ms.length := by omega
    go_enter Try.func24, Try.ntmps24
    go_wp2_with fail
    with_reducible refine (HFI.out _ ((HB.out.alloc (Nat.le_refl _) _).alloc (by simp) _)).mono ?_; rintro e w1 ⟨rfl, b1⟩
    obtain ⟨hr1, hr2, hb1⟩ := mafter2 b1
    obtain ⟨⟨q0, q1, q2, q3, q4, q5, q6⟩, _⟩ := ns_reads hr1
    have d5 := (hb1.cell (p := ⟨b, off + k * 6 + 5, none⟩) hbl).trans c5
    have HT := Lib.hid (HCT.out.below hb1)
    have HB1 := Lib.hid hb1
    clear b1 hr1 hr2 hb1 c5 cc ct
    go_wp2_with fail
    exact bodyPost_ret (v := .tuple #[.slice ta tn tc, .bool true]) (by simp [results, Try.results24, go_sem]) rfl (un_says HF.out HT.out HB1.out)
set_option maxHeartbeats 1000000 in
/-- EqualUnion of a union with itself. -/
theorem equ_any (v1 v2 : Value) (l : List Tgt) (w : World) (h1 : Tgts w v1 l) (h2 : Tgts w v2 l) (hl : l.length ≤ 1000000) :
    Calls Try.prog 25 #[v1, v2] w fun e w' => e = .returned (.bool true) ∧ Below w.heap.size w w' := by
  obtain ⟨a1, n1, p1, rfl⟩ := h1.form
  obtain ⟨a2, n2, p2, rfl⟩ := h2.form
  obtain ⟨rfl, k1⟩ := h1.at
  obtain ⟨rfl, k2⟩ := h2.at
  have HB := Lib.hid (Below.refl w.heap.size w)
  have H1 := Lib.hid k1
  have H2 := Lib.hid k2
  clear h1 h2 k1 k2
  go_enter Try.func25, Try.ntmps25
  go_wp2_with fail
  go_loopw [13] (fun i wr => ∃ k : Nat, k ≤ l.length ∧ i = .int .i64 (k : Int) ∧ Below w.heap.size w wr) (fun i _ => l.length - (intOf i).toNat)
  case atStart => exact ⟨0, by omega, rfl, HB.out⟩
  case round =>
    obtain ⟨k, hk, rfl, hb⟩ := hrel
    by_cases hlt : k < l.length
    · obtain ⟨x1, o1, rfl, l1, ca, c5⟩ := H1.out k hlt
      obtain ⟨x2, o2, rfl, l2, da, d5⟩ := H2.out k hlt
      have hki : (k : Int) < l.length := by omega
      obtain ⟨c0, c1, c2, c3, c4⟩ := ca.below (w' := wr) ⟨hb.os, hb.tape, hb.output, hb.size, hb.block⟩ l1
      obtain ⟨d0, d1, d2, d3, d4⟩ := da.below (w' := wr) ⟨hb.os, hb.tape, hb.output, hb.size, hb.block⟩ l2
      rw [← hb.cell (p := ⟨x1, o1 + k * 6 + 5, none⟩) l1] at c5
      rw [← hb.cell (p := ⟨x2, o2 + k * 6 + 5, none⟩) l2] at d5
      have HBB := Lib.hid hb
      clear hb ca da
      go_wp2_with fail
      go_quiet (fail)
      go_wp2_with fail
      go_roundw
      case rel => exact ⟨k + 1, by omega, by go_num, below_drewN HBB.out _⟩
      case measure => simp [intOf]; omega
    · obtain rfl : k = l.length := by omega
      have HBB := Lib.hid hb
      clear hb
      go_wp2_with fail
      go_ret
      exact ⟨rfl, HBB.out⟩
end Go.Proofs.Ytganenaaglfdnaa
