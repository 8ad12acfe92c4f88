/- What user.Find, user.Member and the reference's at, Find, Member return. Conditions: the list holds the given users, with at most 10^6 members each. -/
import Derived.Test.YtjefmjaommpaaaaStrs
set_option linter.unusedVariables false
set_option linter.unusedSimpArgs false
namespace Go.Proofs.Ytjefmjaommpaaaa
open Go.RowKit
theorem Strs.form {w : World} {v : Value} {ss : List ByteArray} (h : Strs w v ss) : ∃ ao n c, v = .slice ao n c := by
  rcases h with ⟨rfl, _⟩ | ⟨a, cap, rfl, _⟩ | ⟨b, off, cap, rfl, _⟩
  · exact ⟨_, _, _, rfl⟩
  · exact ⟨_, _, _, rfl⟩
  · exact ⟨_, _, _, rfl⟩
structure Usr where
  name : ByteArray
  leader : ByteArray
  mems : List ByteArray
/-- A list of users in memory. -/
def Usrs (w : World) (v : Value) (us : List Usr) : Prop :=
  (v = .slice none 0 0 ∧ us = []) ∨ (∃ a cap, v = .slice (some a) 0 cap ∧ us = []) ∨ ∃ b off cap, v = .slice (some ⟨b, off, none⟩) us.length cap ∧ b < w.heap.size ∧ us.length ≤ cap ∧
    ∀ j (h : j < us.length), w.cell? ⟨b, off + j * 3, none⟩ = some (.string us[j].name) ∧ w.cell? ⟨b, off + j * 3 + 1, none⟩ = some (.string us[j].leader) ∧ ∃ mv, w.cell? ⟨b, off + j * 3 + 2, none⟩ = some mv ∧ Strs w mv us[j].mems
theorem Usrs.below {w w' : World} {v : Value} {us : List Usr} (h : Usrs w v us) (hb : Below w.heap.size w w') : Usrs w' v us := by
  rcases h with h | h | ⟨b, off, cap, hv, hlt, hc, hcell⟩
  · exact .inl h
  · exact .inr (.inl h)
  · refine .inr <| .inr ⟨b, off, cap, hv, Nat.lt_of_lt_of_le hlt hb.size, hc, fun j h => ?_⟩
    obtain ⟨c0, c1, mv, c2, hs⟩ := hcell j h
    rw [hb.cell (p := ⟨b, off + j * 3, none⟩) hlt, hb.cell (p := ⟨b, off + j * 3 + 1, none⟩) hlt, hb.cell (p := ⟨b, off + j * 3 + 2, none⟩) hlt]
    exact ⟨c0, c1, mv, c2, hs.below hb⟩
theorem Usrs.form {w : World} {v : Value} {us : List Usr} (h : Usrs w v us) : ∃ ao n c, v = .slice ao n c := by
  rcases h with ⟨rfl, _⟩ | ⟨a, cap, rfl, _⟩ | ⟨b, off, cap, rfl, _⟩
  · exact ⟨_, _, _, rfl⟩
  · exact ⟨_, _, _, rfl⟩
  · exact ⟨_, _, _, rfl⟩
/-- The number of the user with a name. -/
def uidx (us : List Usr) (x : ByteArray) : Int := idx x (us.map (·.name))
theorem uidx_at (x : ByteArray) (us : List Usr) (k : Nat) (h : k < us.length) (hn : ∀ j (hj : j < k), ¬ (us[j]'(by omega)).name = x) (he : us[k].name = x) : uidx us x = k :=
  idx_at x _ k (by simpa using h) (fun j hj => by simpa using hn j hj) (by simpa using he)
theorem uidx_none (x : ByteArray) (us : List Usr) (h : ∀ j (hj : j < us.length), ¬ us[j].name = x) : uidx us x = -1 :=
  idx_none x _ fun j hj => by simpa using h j (by simpa using hj)
theorem uidx_lt (x : ByteArray) (us : List Usr) : uidx us x < us.length := by
  have key : ∀ l : List ByteArray, idx x l < l.length := by
    intro l
    induction l with
    | nil => simp [idx]
    | cons y l ih =>
      rw [idx]
      by_cases h : y = x
      · rw [if_pos h]; simp
      · rw [if_neg h]; split <;> simp <;> omega
  have := key (us.map (·.name))
  simpa [uidx] using this
theorem uidx_ge (x : ByteArray) (us : List Usr) : -1 ≤ uidx us x := (idx_nonneg x _).2
def umem (us : List Usr) (u g : ByteArray) : Bool := if u = g then true else match us[(uidx us g).toNat]? with | some x => if 0 ≤ uidx us g then has u x.mems else false | none => false

def FindSays (us : List Usr) (x : ByteArray) (w : World) (e : Ending) (w' : World) : Prop :=
  (uidx us x = -1 ∧ e = .returned (.tuple #[.agg #[.string (T []), .string (T []), .slice none 0 0], .bool false]) ∧ Below w.heap.size w w') ∨
  ∃ (k : Nat) (hk : k < us.length) (mv : Value), uidx us x = k ∧ e = .returned (.tuple #[.agg #[.string us[k].name, .string us[k].leader, mv], .bool true]) ∧ Strs w' mv us[k].mems ∧ Below w.heap.size w w'

theorem after_alloc1_new {w w1 : World} {A : Obj} (hb : Below (w.alloc A).heap.size (w.alloc A) w1) : w1.heap[w.heap.size]? = some A :=
  (hb.block _ (by simp)).trans (heap_alloc_new _ _)
theorem after_alloc1 {w w1 : World} {A : Obj} (hb : Below (w.alloc A).heap.size (w.alloc A) w1) : Below w.heap.size w w1 :=
  ((Below.refl _ _).alloc (Nat.le_refl _) _).trans (hb.mono (by simp))
set_option maxHeartbeats 2000000 in
theorem find_any (v : Value) (us : List Usr) (x : ByteArray) (w : World) (hv : Usrs w v us) (hl : us.length ≤ 1000000) (hml : ∀ j (h : j < us.length), us[j].mems.length ≤ 1000000) :
    Calls Try.prog 32 #[v, .string x] w (FindSays us x w) := by
  rcases hv with ⟨rfl, rfl⟩ | ⟨a, cap, rfl, rfl⟩ | ⟨b, off, cap, rfl, hlt, hc, hcell⟩
  · go_enter Try.func32, Try.ntmps32
    go_wp2_with fail
    refine wp_loop_rounds 1 ?_
    rw [rounds_succ]
    go_wp2_with fail
    exact bodyPost_ret (v := .tuple #[.agg #[.string (T []), .string (T []), .slice none 0 0], .bool false]) (by simp [results, Try.results32, go_sem]) rfl (.inl ⟨rfl, rfl, (Below.refl _ _).alloc (Nat.le_refl _) _⟩)
  · go_enter Try.func32, Try.ntmps32
    go_wp2_with fail
    refine wp_loop_rounds 1 ?_
    rw [rounds_succ]
    go_wp2_with fail
    exact bodyPost_ret (v := .tuple #[.agg #[.string (T []), .string (T []), .slice none 0 0], .bool false]) (by simp [results, Try.results32, go_sem]) rfl (.inl ⟨rfl, rfl, (Below.refl _ _).alloc (Nat.le_refl _) _⟩)
  · have HC := Lib.hid hcell
    have HML := Lib.hid hml
    have HI := Lib.hid (uidx_at x us)
    have HN := Lib.hid (uidx_none x us)
    have HB0 := Lib.hid (Below.refl w.heap.size w)
    clear hcell hml
    go_enter Try.func32, Try.ntmps32
    go_wp2_with fail
    go_loopw [10] (fun i wr => ∃ k : Nat, k ≤ us.length ∧ i = .int .i64 (k : Int) ∧ Hid (∀ j (hj : j < k) (hk : k ≤ us.length), ¬ (us[j]'(by omega)).name = x) ∧ wr.heap[w.heap.size]? = some (.cells #[.string ⟨#[]⟩, .string ⟨#[]⟩, .slice none 0 0] 53 (0, 0)) ∧ Below w.heap.size w wr) (fun i _ => us.length - (intOf i).toNat)
    case atStart => exact ⟨0, by omega, rfl, (fun j hj => by omega), heap_alloc_new _ _, HB0.out.alloc (Nat.le_refl _) _⟩
    case round =>
      obtain ⟨k, hk, rfl, hn, hrow, hb⟩ := hrel
      have hltr : w.heap.size < wr.heap.size := by
        rcases Nat.lt_or_ge w.heap.size wr.heap.size with h' | h'
        · exact h'
        · simp [Array.getElem?_eq_none h'] at hrow
      have HR := Lib.hid hrow
      have HB := Lib.hid hb
      clear hrow hb
      by_cases hltk : k < us.length
      · obtain ⟨c0, c1, mv, c2, hs⟩ := HC.out k hltk
        have hm := HML.out k hltk
        rw [← HB.out.cell (p := ⟨b, off + k * 3, none⟩) hlt] at c0
        rw [← HB.out.cell (p := ⟨b, off + k * 3 + 1, none⟩) hlt] at c1
        rw [← HB.out.cell (p := ⟨b, off + k * 3 + 2, none⟩) hlt] at c2
        obtain ⟨ao, mn, mc, rfl⟩ := hs.form
        have HS := Lib.hid (hs.below HB.out)
        clear hs
        by_cases he : us[k].name = x
        · have HE := Lib.hid (HI.out k hltk (fun j hj => hn.out j hj hk) he)
          have HCL := Lib.hid (fun w' (hb : Below wr.heap.size wr w') => sclone_any (.slice ao mn mc) us[k].mems w' (HS.out.below hb) hm)
          have e1 : us[k].name.toList == x.toList := by rw [he]; simp
          have HNE := Lib.hid he
          clear he
          go_wp2_with fail
          refine (HCL.out _ ((Below.refl _ _).alloc (Nat.le_refl _) _)).mono ?_; rintro e w1 ⟨v1, rfl, hs1, hb1, hg1⟩
          obtain ⟨ao1, mn1, mc1, rfl⟩ := hs1.form
          have hu := after_alloc1_new hb1
          have hbw := after_alloc1 hb1
          have hr4 : w1.heap[w.heap.size]? = some (.cells #[.string ⟨#[]⟩, .string ⟨#[]⟩, .slice none 0 0] 53 (0, 0)) := (hbw.block _ hltr).trans HR.out
          have q0 : w1.cell? ⟨wr.heap.size, 0, none⟩ = some (.string us[k].name) := by rw [cell_of_row _ _ _ _ _ _ hu]; rfl
          have p0 := frozen_of_row w1 wr.heap.size 0 _ _ hu
          have q1 : w1.cell? ⟨wr.heap.size, 1, none⟩ = some (.string us[k].leader) := by rw [cell_of_row _ _ _ _ _ _ hu]; rfl
          have p1 := frozen_of_row w1 wr.heap.size 1 _ _ hu
          have q2 : w1.cell? ⟨wr.heap.size, 2, none⟩ = some (.slice ao mn mc) := by rw [cell_of_row _ _ _ _ _ _ hu]; rfl
          have p2 := frozen_of_row w1 wr.heap.size 2 _ _ hu
          have d0 : w1.cell? ⟨w.heap.size, 0, none⟩ = some (.string ⟨#[]⟩) := by rw [cell_of_row _ _ _ _ _ _ hr4]; rfl
          have f0 := frozen_of_row w1 w.heap.size 0 _ _ hr4
          have d1 : w1.cell? ⟨w.heap.size, 1, none⟩ = some (.string ⟨#[]⟩) := by rw [cell_of_row _ _ _ _ _ _ hr4]; rfl
          have f1 := frozen_of_row w1 w.heap.size 1 _ _ hr4
          have d2 : w1.cell? ⟨w.heap.size, 2, none⟩ = some (.slice none 0 0) := by rw [cell_of_row _ _ _ _ _ _ hr4]; rfl
          have f2 := frozen_of_row w1 w.heap.size 2 _ _ hr4
          have n1 : ¬ w.heap.size = wr.heap.size := Nat.ne_of_lt hltr
          have n2 : ¬ wr.heap.size = w.heap.size := fun h => n1 h.symm
          have HB1 := Lib.hid (HB.out.trans (hbw.mono HB.out.size))
          have HS1 := Lib.hid hs1
          have HBB := Lib.hid hb1
          clear hs1 hu hr4 hbw hb1
          go_wp2_with fail
          have z1 : ∀ g, (Value.slice ao1 mn1 mc1).ownBlock = some g → g ≠ wr.heap.size := fun g hg e => by have := hg1 g hg; simp at this; omega
          have z2 : ∀ g, (Value.slice ao1 mn1 mc1).ownBlock = some g → g ≠ w.heap.size := fun g hg e => by have := hg1 g hg; simp at this; omega
          have hst := (((HS1.out.setCell (p := ⟨wr.heap.size, 2, none⟩) (.slice ao1 mn1 mc1) z1).setCell (p := ⟨w.heap.size, 0, none⟩) (.string us[k].name) z2).setCell (p := ⟨w.heap.size, 1, none⟩) (.string us[k].leader) z2).setCell (p := ⟨w.heap.size, 2, none⟩) (.slice ao1 mn1 mc1) z2
          have hbl := (((HB1.out.setCell (p := ⟨wr.heap.size, 2, none⟩) (Nat.le_of_lt hltr) (.slice ao1 mn1 mc1)).setCell (p := ⟨w.heap.size, 0, none⟩) (Nat.le_refl _) (.string us[k].name)).setCell (p := ⟨w.heap.size, 1, none⟩) (Nat.le_refl _) (.string us[k].leader)).setCell (p := ⟨w.heap.size, 2, none⟩) (Nat.le_refl _) (.slice ao1 mn1 mc1)
          exact bodyPost_ret (v := .tuple #[.agg #[.string us[k].name, .string us[k].leader, .slice ao1 mn1 mc1], .bool true]) (by simp [results, Try.results32, go_sem, d0, d1, d2, q0, q1, q2, n1, n2]) rfl (.inr ⟨k, hltk, _, HE.out, rfl, hst, hbl⟩)
        · have HS2 := Lib.hid (show ∀ j (hj : j < k + 1) (hk : k + 1 ≤ us.length), ¬ (us[j]'(by omega)).name = x from fun j hj hk' => by
            rcases Nat.lt_or_ge j k with h' | h'
            · exact hn.out j h' hk
            · obtain rfl : j = k := by omega
              exact he)
          have e1 := str_ne he
          clear he
          go_wp2_with fail
          go_roundw
          case rel => exact ⟨k + 1, by omega, by go_num, HS2, (heap_alloc_old _ _ hltr).trans HR.out, HB.out.alloc HB.out.size _⟩
          case measure => simp [intOf]; omega
      · obtain rfl : k = us.length := by omega
        have HE := Lib.hid (HN.out fun j hj => hn.out j hj (Nat.le_refl _))
        have hcs0 : wr.cell? ⟨w.heap.size, 0, none⟩ = some (.string ⟨#[]⟩) := by rw [cell_of_row _ _ _ _ _ _ HR.out]; rfl
        have hcs1 : wr.cell? ⟨w.heap.size, 1, none⟩ = some (.string ⟨#[]⟩) := by rw [cell_of_row _ _ _ _ _ _ HR.out]; rfl
        have hcs2 : wr.cell? ⟨w.heap.size, 2, none⟩ = some (.slice none 0 0) := by rw [cell_of_row _ _ _ _ _ _ HR.out]; rfl
        have hf0 := frozen_of_row wr w.heap.size 0 _ _ HR.out
        have hf1 := frozen_of_row wr w.heap.size 1 _ _ HR.out
        have hf2 := frozen_of_row wr w.heap.size 2 _ _ HR.out
        go_wp2_with fail
        exact bodyPost_ret (v := .tuple #[.agg #[.string (T []), .string (T []), .slice none 0 0], .bool false]) (by simp [results, Try.results32, go_sem, hcs0, hcs1, hcs2]) rfl (.inl ⟨HE.out, rfl, ((HB.out.setCell (p := ⟨w.heap.size, 0, none⟩) (Nat.le_refl _) _).setCell (p := ⟨w.heap.size, 1, none⟩) (Nat.le_refl _) _).setCell (p := ⟨w.heap.size, 2, none⟩) (Nat.le_refl _) _⟩)
end Go.Proofs.Ytjefmjaommpaaaa
