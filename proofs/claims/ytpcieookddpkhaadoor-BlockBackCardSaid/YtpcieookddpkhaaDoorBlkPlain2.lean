/- Plain facts: what calls of Put keep; the examples of the chapter. Conditions: those that each fact names. No program in sight. -/
import Derived.Test.YtpcieookddpkhaaDoorBlkPlain
import Derived.Test.YtpcieookddpkhaaDoorBlkPut
import Derived.Test.YtpcieookddpkhaaDoorBlkRight
set_option linter.unusedVariables false
set_option linter.unusedSimpArgs false
namespace Go.Proofs.YtpcieookddpkhaaDoor
namespace Blok
theorem wf_nil : Wf [] := fun a b c h => by simp at h
theorem known_bounds {k : Int} (h : known k = true) : 1 ≤ k ∧ k ≤ 4 := by
  unfold known at h; rw [Bool.and_eq_true, decide_eq_true_eq, decide_eq_true_eq] at h; exact h
theorem wf_snoc {bs : List Blk} {b : Blk} (h : Wf bs) (hf : fair b) (hm : b = made b.kd b.dt) (hi : idx b.sc bs < 0) : Wf (bs ++ [b]) := by
  intro a x c e
  rcases List.eq_nil_or_concat c with rfl | ⟨c', y, rfl⟩
  · have := List.append_inj' e rfl
    obtain ⟨h1, h2⟩ := this
    injection h2 with h2
    subst h1; subst h2
    exact ⟨hf, hm, hi⟩
  · have e2 : bs ++ [b] = (a ++ x :: c') ++ [y] := by rw [e]; simp
    have := List.append_inj' e2 rfl
    exact h a x c' this.1
theorem wf_mem {bs : List Blk} {b : Blk} (h : Wf bs) (hb : b ∈ bs) : fair b ∧ b = made b.kd b.dt := by
  obtain ⟨a, c, rfl⟩ := List.append_of_mem hb
  have := h a b c rfl
  exact ⟨this.1, this.2.1⟩
theorem wf_fair {bs : List Blk} (h : Wf bs) : ∀ b ∈ bs, fair b := fun b hb => (wf_mem h hb).1
/-- A call of Put, on a list that calls of Put have made. -/
theorem wf_put {cap : Int} {bs : List Blk} (k : Int) (d : List UInt8) (hw : Wf bs) (hc : (bs.length : Int) ≤ cap) :
    Wf (put cap bs k d).1 ∧ ((put cap bs k d).1.length : Int) ≤ cap ∧ (put cap bs k d).1.length ≤ bs.length + 1 ∧ (∀ b ∈ bs, b ∈ (put cap bs k d).1) ∧ ((put cap bs k d).2.2 = 0 → (put cap bs k d).2.1 = scr k d ∧ made k d ∈ (put cap bs k d).1) ∧ ((put cap bs k d).2.2 ≠ 0 → (put cap bs k d).1 = bs ∧ (put cap bs k d).2.1 = []) := by
  cases hk : known k
  · rw [put_arg hk]; exact ⟨hw, hc, by simp, fun b h => h, fun h => by simp at h, fun _ => ⟨rfl, rfl⟩⟩
  rcases Nat.lt_or_ge 1024 d.length with hd | hd
  · rw [put_long hk hd]; exact ⟨hw, hc, by simp, fun b h => h, fun h => by simp at h, fun _ => ⟨rfl, rfl⟩⟩
  rcases Int.lt_or_le (idx (scr k d) bs) 0 with hi | hi
  · rcases Int.lt_or_le bs.length cap with hl | hl
    · rw [put_new hk hd hi hl]
      have hkb := known_bounds hk
      exact ⟨wf_snoc hw ⟨hkb.1, hkb.2, hd, scr_length _ _⟩ rfl hi, by simp; omega, by simp, fun b h => List.mem_append.2 (.inl h), fun _ => ⟨rfl, by simp⟩, fun h => absurd rfl h⟩
    · rw [put_full hk hd hi hl]; exact ⟨hw, hc, by simp, fun b h => h, fun h => by simp at h, fun _ => ⟨rfl, rfl⟩⟩
  · obtain ⟨i, hl, he, hs⟩ := hit hi
    by_cases hm : bs[i] = made k d
    · rw [put_same hk hd he hl hm]
      exact ⟨hw, hc, by simp, fun b h => h, fun _ => ⟨rfl, hm ▸ List.getElem_mem hl⟩, fun h => absurd rfl h⟩
    · rw [put_bad hk hd he hl hm]; exact ⟨hw, hc, by simp, fun b h => h, fun h => by simp at h, fun _ => ⟨rfl, rfl⟩⟩
/-- What was stored is found. -/
theorem wf_idx {bs : List Blk} {b : Blk} (hw : Wf bs) (hb : b ∈ bs) : ∃ (i : Nat) (h : i < bs.length), idx b.sc bs = i ∧ bs[i] = b := by
  obtain ⟨a, c, rfl⟩ := List.append_of_mem hb
  have h := hw a b c rfl
  refine ⟨a.length, by simp, idx_at b.sc _ a.length (by simp) (fun j hj he => ?_) (by simp), by simp⟩
  have : (a ++ b :: c)[j]'(by simp; omega) = a[j] := by rw [List.getElem_append_left hj]
  rw [this] at he
  have := (idx_mem b.sc a).2 ⟨a[j], List.getElem_mem hj, he⟩
  omega
theorem get_made {bs : List Blk} {k : Int} {d : List UInt8} (hw : Wf bs) (hm : made k d ∈ bs) : get bs (scr k d) k = (d, 0) := by
  obtain ⟨i, hi, he, hb⟩ := wf_idx hw hm
  rw [get_at (x := scr k d) hi he, hb]
  rw [if_neg (by simp [made]), if_neg (by simp [made])]; rfl
theorem has_made {bs : List Blk} {k : Int} {d : List UInt8} (hw : Wf bs) (hm : made k d ∈ bs) : 0 ≤ idx (scr k d) bs := by
  obtain ⟨i, hi, he, hb⟩ := wf_idx hw hm
  have he : idx (scr k d) bs = i := he
  omega
theorem wf_right {cap : Int} {bs : List Blk} (hw : Wf bs) (h1 : 1 ≤ cap) (h2 : cap ≤ 4096) (hc : (bs.length : Int) ≤ cap) : right cap bs = true := by
  refine right_yes ⟨h1, h2, hc, fun i hi => ?_⟩
  obtain ⟨⟨f1, f2, f3, f4⟩, hm, hx⟩ := hw (bs.take i) bs[i] (bs.drop (i + 1)) (by rw [List.getElem_cons_drop, List.take_append_drop])
  refine ⟨?_, f3, f4, hx⟩
  unfold known; rw [decide_eq_true f1, decide_eq_true f2]; rfl
theorem keep_all {bs : List Blk} {c : Nat} (hf : ∀ b ∈ bs, fair b) (h : used bs ≤ c) : keep bs c = bs := by
  induction bs generalizing c with
  | nil => rfl
  | cons b r ih =>
    rw [used] at h
    rw [keep, if_pos (by omega), ih (fun x hx => hf x (by simp [hx])) (by omega)]
theorem keep_take (bs : List Blk) (c : Nat) : keep bs c = bs.take (keep bs c).length := by
  induction bs generalizing c with
  | nil => rfl
  | cons b r ih =>
    rw [keep]
    split
    · rw [List.length_cons, List.take_succ_cons, ← ih]
    · rfl
/-- The log of a list that calls of Put have made is read back whole. -/
theorem load_all (bs : List Blk) (most : Int) (hw : Wf bs) (hc : (bs.length : Int) ≤ capOf most) : load (log bs) most = (capOf most, bs, (used bs : Int), 0) := by
  have h := load_log bs most (log bs).length hw hc
  rw [List.take_of_length_le (Nat.le_refl _), keep_all (wf_fair hw) (by rw [log_length (wf_fair hw)]; omega)] at h
  exact h
/-! ### the examples of the chapter -/
def abc : List UInt8 := [97, 98, 99]
def abd : List UInt8 := [97, 98, 100]
theorem ne_ac : ¬ scr 2 abc = scr 1 abc := by decide +kernel
theorem ne_ea : ¬ scr 1 abd = scr 1 abc := by decide +kernel
theorem ne_ec : ¬ scr 1 abd = scr 2 abc := by decide +kernel
theorem idx_hd {x : List UInt8} {b : Blk} {l : List Blk} (h : b.sc = x) : idx x (b :: l) = 0 := by rw [idx, if_pos h]
theorem idx_tl {x : List UInt8} {b : Blk} {l : List Blk} (h : ¬ b.sc = x) (h2 : idx x l < 0) : idx x (b :: l) < 0 := by rw [idx, if_neg h, if_pos h2]; decide
theorem al1 : put 2 [] 1 abc = ([made 1 abc], scr 1 abc, 0) := put_new rfl (by decide) (by simp [idx]) (by decide)
theorem al2 : put 2 [made 1 abc] 1 abc = ([made 1 abc], scr 1 abc, 0) := put_same (i := 0) rfl (by decide) (idx_hd rfl) (by simp) rfl
theorem idx2 : idx (scr 2 abc) [made 1 abc] < 0 := idx_tl (fun h => ne_ac h.symm) (by decide)
theorem al3 : put 2 [made 1 abc] 2 abc = ([made 1 abc, made 2 abc], scr 2 abc, 0) := put_new rfl (by decide) idx2 (by decide)
theorem al4 : put 2 [made 1 abc, made 2 abc] 1 abd = ([made 1 abc, made 2 abc], [], 22) := put_full rfl (by decide) (idx_tl (fun h => ne_ea h.symm) (idx_tl (fun h => ne_ec h.symm) (by decide))) (by decide)
theorem alw : Wf [made 1 abc, made 2 abc] := by
  have h1 := (wf_put (cap := 2) 1 abc wf_nil (by decide)).1
  rw [al1] at h1
  have h2 := (wf_put (cap := 2) 2 abc h1 (by simp)).1
  rw [al3] at h2
  exact h2
theorem al5 : get [made 1 abc, made 2 abc] (scr 2 abc) 2 = (abc, 0) := get_made alw (by simp)
theorem al6 : get [made 1 abc, made 2 abc] (scr 1 abc) 2 = ([], 1) := by
  rw [get_at (x := scr 1 abc) (i := 0) (by simp) (idx_hd rfl), if_pos (show [made 1 abc, made 2 abc][0].kd ≠ 2 from (show ¬ (1 : Int) = 2 by decide))]
theorem al7 : (log [made 1 abc, made 2 abc]).length = 84 := by rw [log_length (wf_fair alw)]; rfl
theorem al8 : load ((log [made 1 abc, made 2 abc]).take 83) 2 = (2, [made 1 abc], 42, 0) := load_log [made 1 abc, made 2 abc] 2 83 alw (by decide)
theorem al9 : right 2 [made 1 abc, made 2 abc] = true := wf_right alw (by decide) (by decide) (by decide)
end Blok
end Go.Proofs.YtpcieookddpkhaaDoor
