/- Plain facts: a log is read back, whole or cut off; what calls of Put keep. Conditions: those that each fact names. No program in sight. -/
import Derived.Test.YtpcieookddpkhaaDoorBlkScan
import Derived.Test.YtpcieookddpkhaaDoorBlkLogP
set_option linter.unusedVariables false
set_option linter.unusedSimpArgs false
namespace Go.Proofs.YtpcieookddpkhaaDoor
namespace Blok
/-- A list of blocks that calls of Put make. -/
def Wf (bs : List Blk) : Prop := ∀ (a : List Blk) (b : Blk) (c : List Blk), bs = a ++ b :: c → fair b ∧ b = made b.kd b.dt ∧ idx b.sc a < 0
theorem leVal_le1 (k : Nat) (h : k < 256) : Oct.leVal (Oct.le 1 k) = k := by rw [Oct.leVal_le]; omega
theorem leVal_le2 (k : Nat) (h : k < 65536) : Oct.leVal (Oct.le 2 k) = k := by rw [Oct.leVal_le]; omega
theorem rec_eq {b : Blk} (h : fair b) : rec b = magic ++ (Oct.le 1 b.kd.toNat ++ (Oct.le 2 b.dt.length ++ (b.sc ++ b.dt))) := by
  unfold rec; rw [put1 ⟨h.1, h.2.1⟩, put2 h.2.2.1]; simp [magic]
/-- What a header of a record says, cut off at c bytes at least behind the header. -/
theorem head_rec {b : Blk} (h : fair b) (r : List UInt8) (c : Nat) (hc : 39 ≤ c) (hcr : c ≤ (rec b ++ r).length) :
    isHead ((rec b ++ r).take c) = true ∧ hOK ((rec b ++ r).take c) = true ∧ hK ((rec b ++ r).take c) = b.kd ∧ hN ((rec b ++ r).take c) = b.dt.length := by
  have hk : b.kd.toNat < 256 := by have := h.2.1; omega
  have hd : b.dt.length < 65536 := by have := h.2.2.1; omega
  have hs := h.2.2.2
  have hlen : ((rec b ++ r).take c).length = c := by rw [List.length_take]; omega
  have e4 : ((rec b ++ r).take c).take 4 = magic := by
    rw [List.take_take, Nat.min_eq_left (by omega), rec_eq h, List.append_assoc, List.take_left' (show magic.length = 4 from rfl)]
  have p1 : Oct.part ((rec b ++ r).take c) 4 1 = Oct.le 1 b.kd.toNat := by
    unfold Oct.part
    show (((rec b ++ r).take c).drop 4).take 1 = _
    rw [List.drop_take, List.take_take, Nat.min_eq_left (by omega), rec_eq h, List.append_assoc, List.drop_left' (show magic.length = 4 from rfl), List.append_assoc, List.take_left' (Oct.le_length _ _)]
  have p2 : Oct.part ((rec b ++ r).take c) 5 2 = Oct.le 2 b.dt.length := by
    unfold Oct.part
    show (((rec b ++ r).take c).drop 5).take 2 = _
    rw [List.drop_take, List.take_take, Nat.min_eq_left (by omega), rec_eq h, ← List.append_assoc, List.append_assoc (magic ++ _), List.drop_left' (by rw [List.length_append, Oct.le_length]; rfl), List.append_assoc, List.take_left' (Oct.le_length _ _)]
  have g1 : Oct.getN ((rec b ++ r).take c) 4 1 = b.kd := by
    have e : Oct.getE ((rec b ++ r).take c) 4 1 = 0 := (get_ok _ 4 1 (by omega) (by omega) (by omega)).1
    unfold Oct.getN; rw [if_pos e, p1, leVal_le1 _ hk]; have := h.1; omega
  have g2 : Oct.getN ((rec b ++ r).take c) 5 2 = b.dt.length := by
    have e : Oct.getE ((rec b ++ r).take c) 5 2 = 0 := (get_ok _ 5 2 (by omega) (by omega) (by omega)).1
    unfold Oct.getN; rw [if_pos e, p2, leVal_le2 _ hd]
  have hh : isHead ((rec b ++ r).take c) = true := by unfold isHead; rw [hlen, e4, decide_eq_true hc, decide_eq_true rfl]; rfl
  refine ⟨hh, ?_, ?_, ?_⟩
  · unfold hOK; rw [hh, g1, g2]
    have hkn : known b.kd = true := by unfold known; rw [decide_eq_true h.1, decide_eq_true h.2.1]; rfl
    have := h.2.2.1
    rw [hkn, decide_eq_true (by omega)]; rfl
  · unfold hK; rw [if_pos hh, g1]
  · unfold hN; rw [if_pos hh, g2]
theorem sound_rec {b : Blk} (h : fair b) (hm : b = made b.kd b.dt) (r : List UInt8) : sound (rec b ++ r) = some b := by
  have hl := rec_length h
  have e : (rec b ++ r).take (rec b ++ r).length = rec b ++ r := List.take_of_length_le (Nat.le_refl _)
  obtain ⟨h1, h2, h3, h4⟩ := head_rec h r (rec b ++ r).length (by rw [List.length_append]; omega) (Nat.le_refl _)
  rw [e] at h1 h2 h3 h4
  have hsc : b.sc = scr b.kd b.dt := congrArg Blk.sc hm
  have hs := h.2.2.2
  have d7 : ((rec b ++ r).drop 7).take 32 = b.sc := by
    rw [rec_eq h, List.append_assoc, ← List.append_assoc, ← List.append_assoc magic, List.append_assoc, ← List.append_assoc (magic ++ _)]
    simp only [List.append_assoc]
    rw [← List.append_assoc, ← List.append_assoc, List.drop_left' (by rw [List.length_append, List.length_append, Oct.le_length, Oct.le_length]; rfl), List.take_left' hs]
  have d39 : ((rec b ++ r).drop 39).take b.dt.length = b.dt := by
    rw [rec_eq h]
    simp only [List.append_assoc]
    rw [← List.append_assoc, ← List.append_assoc, ← List.append_assoc, List.drop_left' (by rw [List.length_append, List.length_append, List.length_append, Oct.le_length, Oct.le_length, hs]; rfl), List.take_left' rfl]
  have hS : hS (rec b ++ r) = b.sc := by unfold Blok.hS; rw [if_pos h1, d7]
  rw [sound_at h2 (by rw [h4, List.length_append]; omega), h3, h4, hS]
  have e2 : ((b.dt.length : Int)).toNat = b.dt.length := by omega
  rw [e2, d39, if_pos hsc.symm]
theorem sound_cut {b : Blk} (h : fair b) (r : List UInt8) (c : Nat) (hc : c < (rec b).length) : sound ((rec b ++ r).take c) = none ∧ ((hOK ((rec b ++ r).take c) = true) → hN ((rec b ++ r).take c) = b.dt.length) := by
  have hl := rec_length h
  have hlen : ((rec b ++ r).take c).length = c := by rw [List.length_take, List.length_append]; omega
  rcases Nat.lt_or_ge c 39 with h39 | h39
  · have hh : ¬ hOK ((rec b ++ r).take c) = true := fun e => by have := (isHead_yes (hOK_head e)).1; omega
    exact ⟨sound_none (fun e => hh e.1), fun e => absurd e hh⟩
  · obtain ⟨h1, h2, h3, h4⟩ := head_rec h r c h39 (by rw [List.length_append]; omega)
    exact ⟨sound_none (fun e => by have := e.2; rw [h4, hlen] at this; omega), fun _ => h4⟩
/-- The first blocks whose records lie within c bytes. -/
def keep : List Blk → Nat → List Blk
  | [], _ => []
  | b :: r, c => if 39 + b.dt.length ≤ c then b :: keep r (c - (39 + b.dt.length)) else []
theorem scan_log (cap : Int) (l : List UInt8) : ∀ (rest acc : List Blk) (u c n : Nat), Wf (acc ++ rest) → ((acc ++ rest).length : Int) ≤ cap → l.drop u = (log rest).take c → u ≤ l.length → l.length - u < n →
    scan cap l n acc u = some (acc ++ keep rest c, u + used (keep rest c)) ∧ broken l (u + used (keep rest c)) = false := by
  intro rest
  induction rest with
  | nil =>
    intro acc u c n hw hc hd hu hn
    have e : l.drop u = [] := by rw [hd]; simp [log]
    refine ⟨?_, ?_⟩
    · rw [scan_stop (by rw [e]; exact sound_nil)]; simp [keep, used]
    · show broken l (u + 0) = false
      rw [Nat.add_zero]; unfold broken; rw [e]; rfl
  | cons b r ih =>
    intro acc u c n hw hc hd hu hn
    obtain ⟨hf, hm, hi⟩ := hw acc b r rfl
    have hl := rec_length hf
    rw [log] at hd
    obtain ⟨m, rfl⟩ : ∃ m, n = m + 1 := ⟨n - 1, by omega⟩
    by_cases hfit : 39 + b.dt.length ≤ c
    · have e : l.drop u = rec b ++ (log r).take (c - (39 + b.dt.length)) := by
        rw [hd, List.take_append, hl, List.take_of_length_le (by omega)]
      have hlu : u + (39 + b.dt.length) ≤ l.length := by
        have := congrArg List.length e
        rw [List.length_drop, List.length_append, hl] at this
        omega
      have hs : sound (l.drop u) = some b := by rw [e]; exact sound_rec hf hm _
      have hlen : (acc ++ b :: r).length = acc.length + (r.length + 1) := by simp
      rw [scan_new hs (by omega) (by rw [hlen] at hc; omega)]
      have hd2 : l.drop (u + (39 + b.dt.length)) = (log r).take (c - (39 + b.dt.length)) := by
        rw [← List.drop_drop, e, ← hl, List.drop_left' rfl]
      have := ih (acc ++ [b]) (u + (39 + b.dt.length)) (c - (39 + b.dt.length)) m (by simpa using hw) (by simpa using hc) hd2 hlu (by omega)
      rw [keep, if_pos hfit, used]
      rw [List.append_assoc, List.singleton_append, Nat.add_assoc] at this
      exact this
    · obtain ⟨s1, s2⟩ := sound_cut hf (log r) c (by rw [hl]; omega)
      have hlen : l.length - u ≤ c := by
        have := congrArg List.length hd
        rw [List.length_drop, List.length_take] at this
        omega
      rw [← hd] at s1 s2
      rw [keep, if_neg hfit, used, List.append_nil]
      rw [Nat.add_zero u]
      refine ⟨scan_stop s1, ?_⟩
      unfold broken
      cases ho : hOK (l.drop u)
      · rfl
      · rw [s2 ho, Bool.true_and, List.drop_of_length_le (by omega), sound_nil]; rfl
/-- A log that is cut off at c bytes: its first blocks are read, as many as are whole. -/
theorem load_log (bs : List Blk) (most : Int) (c : Nat) (hw : Wf bs) (hc : (bs.length : Int) ≤ capOf most) : load ((log bs).take c) most = (capOf most, keep bs c, (used (keep bs c) : Int), 0) := by
  obtain ⟨h1, h2⟩ := scan_log (capOf most) ((log bs).take c) bs [] 0 c (((log bs).take c).length + 1) (by simpa using hw) (by simpa using hc) (by simp) (Nat.zero_le _) (by omega)
  unfold load
  rw [h1, fin]
  rw [Nat.zero_add] at h2
  simp only [Nat.zero_add, List.nil_append, h2]
  rfl
end Blok
end Go.Proofs.YtpcieookddpkhaaDoor
