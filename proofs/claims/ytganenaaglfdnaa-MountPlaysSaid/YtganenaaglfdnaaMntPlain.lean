/- Plain facts about name spaces: where an element stands, what a call keeps, what Cut and CutAll undo. Conditions: none beyond those that each fact names. No program in sight. -/
import Derived.Test.YtganenaaglfdnaaMntMath
set_option linter.unusedVariables false
set_option linter.unusedSimpArgs false
namespace Go.Proofs.Ytganenaaglfdnaa
namespace Ns
section
variable {α : Type} (p : α → Bool)
theorem ix_neg : ∀ {l : List α}, ix p l < 0 → ∀ x ∈ l, p x = false := by
  intro l
  induction l with
  | nil => intro _ x hx; cases hx
  | cons y l ih =>
    intro h x hx
    rw [ix] at h
    split at h
    · omega
    · rename_i hy
      have h' : ix p l < 0 := by
        rcases Int.lt_or_le (ix p l) 0 with h' | h'
        · exact h'
        · rw [if_neg (by omega)] at h; omega
      rcases List.mem_cons.1 hx with rfl | hx
      · simpa using hy
      · exact ih h' x hx
theorem ix_miss {l : List α} (h : ∀ x ∈ l, p x = false) : ix p l = -1 :=
  ix_none p l (fun j hj => by rw [h _ (List.getElem_mem hj)]; simp)
theorem ix_meet {a b : List α} {m : α} (h : ∀ x ∈ a, p x = false) (hm : p m = true) : ix p (a ++ m :: b) = a.length := by
  induction a with
  | nil => rw [List.nil_append, ix, if_pos hm]; rfl
  | cons y a ih =>
    have hy := h y (by simp)
    have := ih (fun x hx => h x (by simp [hx]))
    rw [List.cons_append, ix, if_neg (by simp [hy]), this, if_neg (by omega)]
    simp
theorem ix_split : ∀ {l : List α}, 0 ≤ ix p l → ∃ a m b, l = a ++ m :: b ∧ ix p l = a.length ∧ p m = true ∧ ∀ x ∈ a, p x = false := by
  intro l
  induction l with
  | nil => intro h; simp [ix] at h
  | cons y l ih =>
    intro h
    by_cases hy : p y = true
    · exact ⟨[], y, l, rfl, by rw [ix, if_pos hy]; rfl, hy, fun x hx => by cases hx⟩
    · have h' : 0 ≤ ix p l := by
        rw [ix, if_neg hy] at h
        rcases Int.lt_or_le (ix p l) 0 with h' | h'
        · rw [if_pos h'] at h; omega
        · exact h'
      obtain ⟨a, m, b, rfl, h2, h3, h4⟩ := ih h'
      refine ⟨y :: a, m, b, rfl, ?_, h3, fun x hx => ?_⟩
      · exact ix_meet p (a := y :: a) (fun x hx => by
          rcases List.mem_cons.1 hx with rfl | hx
          · simpa using hy
          · exact h4 x hx) h3
      · rcases List.mem_cons.1 hx with rfl | hx
        · simpa using hy
        · exact h4 x hx
theorem modify_meet (f : α → α) (a b : List α) (m : α) : (a ++ m :: b).modify a.length f = a ++ f m :: b := by
  induction a with
  | nil => rfl
  | cons y a ih => simp only [List.cons_append, List.length_cons, List.modify_succ_cons, ih]
theorem erase_meet (a b : List α) (m : α) : (a ++ m :: b).eraseIdx a.length = a ++ b := by
  induction a with
  | nil => rfl
  | cons y a ih => simp only [List.cons_append, List.length_cons, List.eraseIdx_cons_succ, ih]
theorem get_meet (a b : List α) (m : α) : (a ++ m :: b)[a.length]? = some m := by simp
end
/-- No two have the same key. -/
def Uniq {α : Type} (key : α → Chn) (l : List α) : Prop := l.Pairwise (fun a b => same (key a) (key b) = false)
theorem uniq_iff {α : Type} (key : α → Chn) (l : List α) : (∀ i (h : i < l.length), ix (fun m => same (key m) (key l[i])) l = i) ↔ Uniq key l := by
  unfold Uniq
  constructor
  · intro h
    rw [List.pairwise_iff_getElem]
    intro i j hi hj hij
    have h1 := h j hj
    cases hs : same (key l[i]) (key l[j])
    · rfl
    · exfalso
      have h0 : 0 ≤ ix (fun m => same (key m) (key l[j])) l := by omega
      obtain ⟨k, hk, e1, e2, e3⟩ := ix_hit _ l h0
      have : k = j := by omega
      subst this
      exact e3 i hij hs
  · intro h i hi
    rw [List.pairwise_iff_getElem] at h
    exact ix_at _ l i hi (fun j hj => by rw [h j i (by omega) hi hj]; simp) (same_refl _)
def okU' (u : List Tgt) : Prop := 1 ≤ u.length ∧ u.length ≤ 16 ∧ (∀ t ∈ u, ok t.ch) ∧ Uniq Tgt.ch u
def okM' (m : Mnt) : Prop := ok m.fr ∧ okU' m.to
theorem okU_iff {u : List Tgt} : okU u ↔ okU' u := by
  unfold okU okU' elem
  constructor
  · rintro ⟨h1, h2, h3⟩
    refine ⟨h1, h2, fun t ht => ?_, (uniq_iff Tgt.ch u).1 (fun i hi => (h3 i hi).2)⟩
    obtain ⟨i, hi, rfl⟩ := List.mem_iff_getElem.1 ht
    exact (h3 i hi).1
  · rintro ⟨h1, h2, h3, h4⟩
    exact ⟨h1, h2, fun k hk => ⟨h3 _ (List.getElem_mem hk), (uniq_iff Tgt.ch u).2 h4 k hk⟩⟩
theorem right_iff {id : Int} {r : Chn} {ms : List Mnt} : Right id r ms ↔ 0 ≤ id ∧ id ≤ 9007199254740991 ∧ ok r ∧ ms.length ≤ 64 ∧ (∀ m ∈ ms, okM' m) ∧ Uniq Mnt.fr ms := by
  unfold Right okM find
  constructor
  · rintro ⟨h1, h2, h3, h4, h5⟩
    refine ⟨h1, h2, h3, h4, fun m hm => ?_, (uniq_iff Mnt.fr ms).1 (fun i hi => (h5 i hi).2.1)⟩
    obtain ⟨i, hi, rfl⟩ := List.mem_iff_getElem.1 hm
    exact ⟨(h5 i hi).1, okU_iff.1 (h5 i hi).2.2⟩
  · rintro ⟨h1, h2, h3, h4, h5, h6⟩
    exact ⟨h1, h2, h3, h4, fun i hi => ⟨(h5 _ (List.getElem_mem hi)).1, (uniq_iff Mnt.fr ms).2 h6 i hi, okU_iff.2 (h5 _ (List.getElem_mem hi)).2⟩⟩
/-! Where the mount of a channel stands. -/
theorem find_neg {ms : List Mnt} {c : Chn} (h : find ms c < 0) : ∀ m ∈ ms, same m.fr c = false := ix_neg _ h
theorem find_split {ms : List Mnt} {c : Chn} (h : 0 ≤ find ms c) : ∃ a m b, ms = a ++ m :: b ∧ find ms c = a.length ∧ same m.fr c = true ∧ ∀ x ∈ a, same x.fr c = false := ix_split _ h
theorem find_meet {a b : List Mnt} {m : Mnt} {c : Chn} (h : ∀ x ∈ a, same x.fr c = false) (hm : same m.fr c = true) : find (a ++ m :: b) c = a.length := ix_meet (fun m : Mnt => same m.fr c) h hm
theorem find_miss {ms : List Mnt} {c : Chn} (h : ∀ m ∈ ms, same m.fr c = false) : find ms c = -1 := ix_miss (fun m : Mnt => same m.fr c) h
theorem elem_meet {a b : List Tgt} {m : Tgt} {c : Chn} (h : ∀ x ∈ a, same x.ch c = false) (hm : same m.ch c = true) : elem (a ++ m :: b) c = a.length := ix_meet (fun m : Tgt => same m.ch c) h hm
theorem elem_neg {u : List Tgt} {c : Chn} (h : elem u c < 0) : ∀ t ∈ u, same t.ch c = false := ix_neg _ h
theorem elem_split {u : List Tgt} {c : Chn} (h : 0 ≤ elem u c) : ∃ a m b, u = a ++ m :: b ∧ elem u c = a.length ∧ same m.ch c = true ∧ ∀ x ∈ a, same x.ch c = false := ix_split _ h
theorem union_none {ms : List Mnt} {c : Chn} (h : find ms c < 0) : union ms c = ([], false) := by
  unfold union
  cases ms[(find ms c).toNat]?
  · rfl
  · simp only [if_pos h]
theorem union_meet {a b : List Mnt} {m : Mnt} {c : Chn} (h : ∀ x ∈ a, same x.fr c = false) (hm : same m.fr c = true) : union (a ++ m :: b) c = (m.to, true) := by
  have e := find_meet (b := b) h hm
  unfold union
  rw [e, show ((a.length : Int)).toNat = a.length from by omega, get_meet]
  simp only [if_neg (show ¬ (a.length : Int) < 0 by omega)]
theorem union_snd {ms : List Mnt} {c : Chn} : (union ms c).2 = decide (0 ≤ find ms c) := by
  rcases Int.lt_or_le (find ms c) 0 with h | h
  · rw [union_none h, decide_eq_false (by omega)]
  · obtain ⟨a, m, b, rfl, h2, h3, h4⟩ := find_split h
    rw [union_meet h4 h3, h2, decide_eq_true (by omega)]
/-- A mount that is not at the channel may be passed by. -/
theorem union_skip {a b : List Mnt} {m : Mnt} {c : Chn} (hm : same m.fr c = false) : union (a ++ m :: b) c = union (a ++ b) c := by
  rcases Int.lt_or_le (find (a ++ b) c) 0 with h | h
  · have hn := find_neg h
    rw [union_none h, union_none]
    rw [find_miss]
    · decide
    · intro x hx
      rcases List.mem_append.1 hx with hx | hx
      · exact hn x (List.mem_append.2 (.inl hx))
      · rcases List.mem_cons.1 hx with rfl | hx
        · exact hm
        · exact hn x (List.mem_append.2 (.inr hx))
  · obtain ⟨a', m', b', e, h2, h3, h4⟩ := find_split h
    rw [e, union_meet h4 h3]
    rcases List.append_eq_append_iff.1 e with ⟨d, rfl, rfl⟩ | ⟨d, rfl, hd⟩
    · rw [show a ++ m :: (d ++ m' :: b') = (a ++ m :: d) ++ m' :: b' from by simp]
      refine union_meet (fun x hx => ?_) h3
      rcases List.mem_append.1 hx with hx | hx
      · exact h4 x (List.mem_append.2 (.inl hx))
      · rcases List.mem_cons.1 hx with rfl | hx
        · exact hm
        · exact h4 x (List.mem_append.2 (.inr hx))
    · cases d with
      | nil =>
        simp only [List.nil_append] at hd
        subst hd
        rw [show a' ++ [] ++ m :: m' :: b' = (a' ++ [m]) ++ m' :: b' from by simp]
        refine union_meet (fun x hx => ?_) h3
        rcases List.mem_append.1 hx with hx | hx
        · exact h4 x hx
        · rcases List.mem_singleton.1 hx with rfl
          exact hm
      | cons y d =>
        simp only [List.cons_append, List.cons.injEq] at hd
        obtain ⟨rfl, rfl⟩ := hd
        rw [show a' ++ m' :: d ++ m :: b = a' ++ m' :: (d ++ m :: b) from by simp]
        exact union_meet h4 h3
theorem same_other {a b c : Chn} (h : same a b = true) (hn : same b c = false) : same a c = false := by
  cases e : same a c
  · rfl
  · rw [same_trans (by rw [same_comm]; exact h) e] at hn; cases hn
/-- What put leaves at its own channel, and at another. -/
theorem union_put (ms : List Mnt) (old : Chn) (u : List Tgt) : union (put ms old u) old = (u, true) := by
  unfold put
  split
  · rename_i h
    exact union_meet (find_neg h) (same_refl _)
  · rename_i h
    obtain ⟨a, m, b, rfl, h2, h3, h4⟩ := find_split (show 0 ≤ find ms old by omega)
    rw [h2, show ((a.length : Int)).toNat = a.length from by omega, modify_meet]
    exact union_meet h4 h3
theorem union_put_far (ms : List Mnt) {old c : Chn} (u : List Tgt) (h : same old c = false) : union (put ms old u) c = union ms c := by
  unfold put
  split
  · rw [union_skip (b := []) h, List.append_nil]
  · rename_i hf
    obtain ⟨a, m, b, rfl, h2, h3, h4⟩ := find_split (show 0 ≤ find ms old by omega)
    have hm := same_other h3 h
    rw [h2, show ((a.length : Int)).toNat = a.length from by omega, modify_meet, union_skip hm, union_skip (m := ⟨m.fr, u⟩) hm]
theorem union_cutAll_far (ms : List Mnt) {old c : Chn} (h : same old c = false) : union (cutAll ms old).1 c = union ms c := by
  unfold cutAll
  split
  · rfl
  · rename_i hf
    obtain ⟨a, m, b, rfl, h2, h3, h4⟩ := find_split (show 0 ≤ find ms old by omega)
    simp only [h2, show ((a.length : Int)).toNat = a.length from by omega, erase_meet]
    rw [union_skip (same_other h3 h)]
/-- What a call returns. -/
def call (k : Int) (ms : List Mnt) (old c : Chn) (flag : Int) : List Mnt × Int := if k = 1 then add ms old c flag else if k = 2 then cut ms old c else cutAll ms old
theorem union_call_far (k : Int) (ms : List Mnt) {old c x : Chn} (flag : Int) (h : same old c = false) : union (call k ms old x flag).1 c = union ms c := by
  unfold call
  split
  · unfold add
    repeat' split
    all_goals first | rfl | exact union_put_far ms _ h
  · split
    · unfold cut
      repeat' split
      all_goals first | rfl | exact union_put_far ms _ h | exact union_cutAll_far ms h
    · exact union_cutAll_far ms h
/-- What put keeps. -/
theorem right_put {id : Int} {r : Chn} {ms : List Mnt} (h : Right id r ms) {old : Chn} {u : List Tgt} (hu : okU' u) (hl : 0 ≤ find ms old ∨ (ok old ∧ ms.length < 64)) : Right id r (put ms old u) := by
  rw [right_iff] at h ⊢
  obtain ⟨h1, h2, h3, h4, h5, h6⟩ := h
  refine ⟨h1, h2, h3, ?_⟩
  unfold put
  split
  · rename_i hf
    refine ⟨by rw [List.length_append, List.length_singleton]; omega, fun m hm => ?_, ?_⟩
    · rcases List.mem_append.1 hm with hm | hm
      · exact h5 m hm
      · rcases List.mem_singleton.1 hm with rfl
        exact ⟨(hl.resolve_left (by omega)).1, hu⟩
    · unfold Uniq at h6 ⊢
      rw [List.pairwise_append]
      refine ⟨h6, List.pairwise_singleton _ _, fun a ha b hb => ?_⟩
      rcases List.mem_singleton.1 hb with rfl
      exact find_neg hf a ha
  · rename_i hf
    obtain ⟨a, m, b, rfl, e2, e3, e4⟩ := find_split (show 0 ≤ find ms old by omega)
    rw [e2, show ((a.length : Int)).toNat = a.length from by omega, modify_meet]
    refine ⟨by simpa using h4, fun x hx => ?_, ?_⟩
    · rcases List.mem_append.1 hx with hx | hx
      · exact h5 x (List.mem_append.2 (.inl hx))
      · rcases List.mem_cons.1 hx with rfl | hx
        · exact ⟨(h5 m (by simp)).1, hu⟩
        · exact h5 x (by simp [hx])
    · unfold Uniq at h6 ⊢
      rw [List.pairwise_append, List.pairwise_cons] at h6 ⊢
      refine ⟨h6.1, h6.2.1, fun x hx y hy => ?_⟩
      rcases List.mem_cons.1 hy with rfl | hy
      · exact h6.2.2 x hx m (by simp)
      · exact h6.2.2 x hx y (by simp [hy])
theorem right_cutAll {id : Int} {r : Chn} {ms : List Mnt} (h : Right id r ms) (old : Chn) : Right id r (cutAll ms old).1 := by
  unfold cutAll
  split
  · exact h
  · rw [right_iff] at h ⊢
    obtain ⟨h1, h2, h3, h4, h5, h6⟩ := h
    refine ⟨h1, h2, h3, ?_, fun m hm => h5 m ((List.eraseIdx_sublist _ _).subset hm), List.Pairwise.sublist (List.eraseIdx_sublist _ _) h6⟩
    exact Nat.le_trans (List.eraseIdx_sublist ms _).length_le h4
theorem union_okU {id : Int} {r : Chn} {ms : List Mnt} (h : Right id r ms) {old : Chn} (hf : 0 ≤ find ms old) : okU' (union ms old).1 := by
  obtain ⟨h1, h2, h3, h4, h5, h6⟩ := right_iff.1 h
  obtain ⟨a, m, b, rfl, e2, e3, e4⟩ := find_split hf
  rw [union_meet e4 e3]
  exact (h5 m (by simp)).2
theorem base_found {ms : List Mnt} {old : Chn} (hf : 0 ≤ find ms old) : base ms old = (union ms old).1 := by
  unfold base; rw [union_snd, decide_eq_true hf, if_pos rfl]
theorem base_none {ms : List Mnt} {old : Chn} (hf : find ms old < 0) : base ms old = [⟨old, false⟩] := by
  unfold base; rw [union_snd, decide_eq_false (by omega), if_neg (by simp)]
theorem base_okU {id : Int} {r : Chn} {ms : List Mnt} (h : Right id r ms) {old : Chn} (ho : ok old) : okU' (base ms old) := by
  rcases Int.lt_or_le (find ms old) 0 with hf | hf
  · rw [base_none hf]
    refine ⟨Nat.le_refl _, by simp, fun t ht => ?_, List.pairwise_singleton _ _⟩
    rcases List.mem_singleton.1 ht with rfl
    exact ho
  · rw [base_found hf]; exact union_okU h hf
theorem valid_true {c : Chn} (h : ¬ valid c = false) : ok c := by
  unfold valid at h
  by_cases h' : ok c
  · exact h'
  · exact absurd (decide_eq_false h') h
theorem okU_one {t : Tgt} (h : ok t.ch) : okU' [t] := by
  refine ⟨Nat.le_refl _, by simp, fun x hx => ?_, List.pairwise_singleton _ _⟩
  rcases List.mem_singleton.1 hx with rfl
  exact h
/-- The union that Add leaves. -/
def next (u : List Tgt) (t : Tgt) (flag : Int) : List Tgt := if flag % 4 = 0 then [t] else if flag % 4 = 1 then t :: u else u ++ [t]
theorem okU_next {u : List Tgt} (hu : okU' u) {t : Tgt} (ht : ok t.ch) {flag : Int} (hn : ¬ (flag % 4 ≠ 0 ∧ 0 ≤ elem u t.ch)) (hl : ¬ (flag % 4 ≠ 0 ∧ 16 ≤ u.length)) : okU' (next u t flag) := by
  unfold next
  split
  · exact okU_one ht
  · rename_i h0
    have hm : ∀ x ∈ u, same x.ch t.ch = false := elem_neg (by
      rcases Int.lt_or_le (elem u t.ch) 0 with h | h
      · exact h
      · exact absurd ⟨h0, h⟩ hn)
    have hl' : u.length < 16 := by
      rcases Nat.lt_or_ge u.length 16 with h | h
      · exact h
      · exact absurd ⟨h0, h⟩ hl
    obtain ⟨u1, u2, u3, u4⟩ := hu
    split
    · refine ⟨by simp, by simp; omega, fun x hx => ?_, ?_⟩
      · rcases List.mem_cons.1 hx with rfl | hx
        · exact ht
        · exact u3 x hx
      · exact List.pairwise_cons.2 ⟨fun x hx => by rw [same_comm]; exact hm x hx, u4⟩
    · refine ⟨by simp, by simp; omega, fun x hx => ?_, ?_⟩
      · rcases List.mem_append.1 hx with hx | hx
        · exact u3 x hx
        · rcases List.mem_singleton.1 hx with rfl
          exact ht
      · refine List.pairwise_append.2 ⟨u4, List.pairwise_singleton _ _, fun a ha b hb => ?_⟩
        rcases List.mem_singleton.1 hb with rfl
        exact hm a ha
/-- What Add did where it returned OK. -/
theorem add_ok {ms : List Mnt} {old c : Chn} {flag : Int} (h : (add ms old c flag).2 = 0) :
    (0 ≤ flag ∧ flag ≤ 6 ∧ flag ≠ 3) ∧ ok old ∧ ok c ∧ ¬ (flag % 4 ≠ 0 ∧ 0 ≤ elem (base ms old) c) ∧ ¬ (flag % 4 ≠ 0 ∧ 16 ≤ (base ms old).length) ∧ (0 ≤ find ms old ∨ ms.length < 64) ∧ (add ms old c flag).1 = put ms old (next (base ms old) ⟨c, decide (4 ≤ flag)⟩ flag) := by
  unfold add at h ⊢
  split at h
  · cases h
  rename_i c1
  split at h
  · cases h
  rename_i c2
  split at h
  · cases h
  rename_i c3
  split at h
  · cases h
  rename_i c4
  rw [if_neg c1, if_neg c2, if_neg c3, if_neg c4]
  exact ⟨by omega, valid_true (fun e => c2 (.inl e)), valid_true (fun e => c2 (.inr e)), c3, fun e => c4 (.inl e), by omega, rfl⟩
theorem add_bad {ms : List Mnt} {old c : Chn} {flag : Int} (h : (add ms old c flag).2 ≠ 0) : (add ms old c flag).1 = ms := by
  unfold add at h ⊢
  split at h
  · rename_i c1; rw [if_pos c1]
  rename_i c1
  split at h
  · rename_i c2; rw [if_neg c1, if_pos c2]
  rename_i c2
  split at h
  · rename_i c3; rw [if_neg c1, if_neg c2, if_pos c3]
  rename_i c3
  split at h
  · rename_i c4; rw [if_neg c1, if_neg c2, if_neg c3, if_pos c4]
  rename_i c4
  exact absurd rfl h
theorem right_add {id : Int} {r : Chn} {ms : List Mnt} (h : Right id r ms) (old c : Chn) (flag : Int) : Right id r (add ms old c flag).1 := by
  by_cases h0 : (add ms old c flag).2 = 0
  · obtain ⟨e1, e2, e3, e4, e5, e6, e7⟩ := add_ok h0
    rw [e7]
    refine right_put h (okU_next (base_okU h e2) e3 e4 e5) ?_
    rcases e6 with e6 | e6
    · exact .inl e6
    · exact .inr ⟨e2, e6⟩
  · rw [add_bad h0]; exact h
theorem right_cut {id : Int} {r : Chn} {ms : List Mnt} (h : Right id r ms) (old c : Chn) : Right id r (cut ms old c).1 := by
  unfold cut
  split
  · exact h
  · rename_i he
    split
    · exact right_cutAll h old
    · rename_i hl
      have hf : 0 ≤ find ms old := by
        rcases Int.lt_or_le (find ms old) 0 with hf | hf
        · rw [union_none hf] at he; exact absurd (show elem [] c < 0 by unfold elem; simp [ix]) he
        · exact hf
      obtain ⟨u1, u2, u3, u4⟩ := union_okU h hf
      have hsub := List.eraseIdx_sublist (union ms old).1 (elem (union ms old).1 c).toNat
      refine right_put h ⟨?_, Nat.le_trans hsub.length_le u2, fun t ht => u3 t (hsub.subset ht), List.Pairwise.sublist hsub u4⟩ (.inl hf)
      rw [List.length_eraseIdx]
      split <;> omega
theorem right_call {id : Int} {r : Chn} {ms : List Mnt} (h : Right id r ms) (k : Int) (old c : Chn) (flag : Int) : Right id r (call k ms old c flag).1 := by
  unfold call
  split
  · exact right_add h old c flag
  · split
    · exact right_cut h old c
    · exact right_cutAll h old
/-- CutAll undoes what was put where nothing was mounted. -/
theorem cutAll_put {ms : List Mnt} {old : Chn} (u : List Tgt) (hf : find ms old < 0) : cutAll (put ms old u) old = (ms, 0) := by
  have e : find (ms ++ [⟨old, u⟩]) old = ms.length := find_meet (find_neg hf) (same_refl _)
  unfold put cutAll
  rw [if_pos hf, e, if_neg (by omega), show ((ms.length : Int)).toNat = ms.length from by omega, erase_meet, List.append_nil]
theorem put_put {ms : List Mnt} {old : Chn} (u : List Tgt) (hf : 0 ≤ find ms old) : put (put ms old u) old (union ms old).1 = ms := by
  obtain ⟨a, m, b, rfl, e2, e3, e4⟩ := find_split hf
  have e5 : find (a ++ ⟨m.fr, u⟩ :: b) old = a.length := find_meet e4 e3
  rw [union_meet e4 e3]
  have p1 : put (a ++ m :: b) old u = a ++ ⟨m.fr, u⟩ :: b := by
    unfold put
    rw [e2, if_neg (by omega), show ((a.length : Int)).toNat = a.length from by omega, modify_meet]
  rw [p1]
  unfold put
  rw [e5, if_neg (by omega), show ((a.length : Int)).toNat = a.length from by omega, modify_meet]
/-- Cut undoes what Add put ahead of a union or behind it. -/
theorem cut_add {id : Int} {r : Chn} {ms : List Mnt} (h : Right id r ms) {old c : Chn} {flag : Int} (h0 : (add ms old c flag).2 = 0) (hf : 0 ≤ find ms old) (hg : flag % 4 ≠ 0) : cut (add ms old c flag).1 old c = (ms, 0) := by
  obtain ⟨e1, e2, e3, e4, e5, e6, e7⟩ := add_ok h0
  have hm : ∀ x ∈ (union ms old).1, same x.ch c = false := elem_neg (by
    rw [base_found hf] at e4
    rcases Int.lt_or_le (elem (union ms old).1 c) 0 with h | h
    · exact h
    · exact absurd ⟨hg, h⟩ e4)
  have hu := (union_okU h hf).1
  have hp := put_put (old := old) (next (union ms old).1 ⟨c, decide (4 ≤ flag)⟩ flag) hf
  rw [e7, base_found hf]
  unfold cut
  rw [union_put]
  generalize (union ms old).1 = u at *
  unfold next at hp ⊢
  rw [if_neg hg] at hp ⊢
  split at hp
  · rename_i h1
    rw [if_pos h1]
    have he : elem (⟨c, decide (4 ≤ flag)⟩ :: u) c = 0 := elem_meet (a := []) (fun x hx => by cases hx) (same_refl _)
    rw [he, if_neg (by omega), if_neg (by simp; intro hn; rw [hn] at hu; simp at hu)]
    simp only [show (0 : Int).toNat = 0 from rfl, List.eraseIdx_cons_zero]
    rw [hp]
  · rename_i h1
    rw [if_neg h1]
    have he : elem (u ++ [⟨c, decide (4 ≤ flag)⟩]) c = u.length := elem_meet hm (same_refl _)
    rw [he, if_neg (by omega), if_neg (by simp; intro hn; rw [hn] at hu; simp at hu)]
    rw [show ((u.length : Int)).toNat = u.length from by omega, erase_meet, List.append_nil, hp]
theorem sameU_refl (u : List Tgt) : sameU u u := ⟨rfl, fun k h h2 => ⟨same_refl _, rfl⟩⟩
theorem sameU_symm {a b : List Tgt} (h : sameU a b) : sameU b a := ⟨h.1.symm, fun k h1 h2 => ⟨by rw [same_comm]; exact (h.2 k h2 h1).1, (h.2 k h2 h1).2.symm⟩⟩
theorem Same_refl (r : Chn) (ms : List Mnt) : Same r ms r ms := ⟨same_refl _, rfl, fun k h h2 => ⟨same_refl _, sameU_refl _⟩⟩
theorem Same_symm {r1 r2 : Chn} {m1 m2 : List Mnt} (h : Same r1 m1 r2 m2) : Same r2 m2 r1 m1 :=
  ⟨by rw [same_comm]; exact h.1, h.2.1.symm, fun k h1 h2 => ⟨by rw [same_comm]; exact (h.2.2 k h2 h1).1, sameU_symm (h.2.2 k h2 h1).2⟩⟩
open Classical in
theorem same?_comm (r1 r2 : Chn) (m1 m2 : List Mnt) : same? r1 m1 r2 m2 = same? r2 m2 r1 m1 := by
  unfold same?
  by_cases h : Same r1 m1 r2 m2
  · rw [decide_eq_true h, decide_eq_true (Same_symm h)]
  · rw [decide_eq_false h, decide_eq_false (fun h' => h (Same_symm h'))]
open Classical in
theorem same?_refl (r : Chn) (ms : List Mnt) : same? r ms r ms = true := decide_eq_true (Same_refl r ms)
end Ns
end Go.Proofs.Ytganenaaglfdnaa
