/- Plain mathematics of layer 6: which modes are valid, their texts, what Parse, Type, Open and Inherit return. No program in sight. Conditions: those that each fact names. -/
namespace Go.Proofs.Ytjefmjaommpaaaa
namespace Prm
def bit (m b : Int) : Bool := decide (0 ≤ m) && (m / b % 2 == 1)
abbrev D : Int := 2147483648
abbrev A : Int := 1073741824
abbrev X : Int := 536870912
def on (m b : Int) : Int := if bit m b then b else 0
def vld (m : Int) : Bool := (decide (0 ≤ m) && decide (m < 4294967296)) && ((m - m % 512 - on m 2147483648 - on m 1073741824 - on m 536870912 == 0) && !(bit m 2147483648 && bit m 1073741824))

def c0 (m : Int) : UInt8 := if bit m 2147483648 then 100 else if bit m 1073741824 then 97 else 45
def c1 (m : Int) : UInt8 := if bit m 536870912 then 108 else 45
def rwx (i : Nat) : UInt8 := if i % 3 = 0 then 120 else if i % 3 = 1 then 119 else 114
def ltr (m : Int) (i : Nat) : UInt8 := if m / 2 ^ i % 2 = 1 then rwx i else 45
/-- The letters of the permissions but for the lowest k. -/
def ltrs (m : Int) (k : Nat) : List UInt8 := (List.range k).map fun j => ltr m (8 - j)
def txt (m : Int) : List UInt8 := if vld m then c0 m :: c1 m :: ltrs m 9 else []

theorem bit_cases (m b : Int) (h : 0 ≤ m) : (bit m b = true ∧ m / b % 2 = 1 ∧ on m b = b) ∨ (bit m b = false ∧ m / b % 2 = 0 ∧ on m b = 0) := by
  unfold on bit
  have h2 : m / b % 2 = 0 ∨ m / b % 2 = 1 := by omega
  rcases h2 with h2 | h2 <;> simp [h, h2]

theorem vld_iff (m : Int) : vld m = true ↔ 0 ≤ m ∧ m < 4294967296 ∧ m / 512 % 1048576 = 0 ∧ ¬ (m / 2147483648 % 2 = 1 ∧ m / 1073741824 % 2 = 1) := by
  by_cases h : 0 ≤ m
  · unfold vld
    rcases bit_cases m 2147483648 h with ⟨a1, a2, a3⟩ | ⟨a1, a2, a3⟩ <;> rcases bit_cases m 1073741824 h with ⟨b1, b2, b3⟩ | ⟨b1, b2, b3⟩ <;> rcases bit_cases m 536870912 h with ⟨d1, d2, d3⟩ | ⟨d1, d2, d3⟩ <;>
      simp only [a1, b1, a3, b3, d3, Bool.and_eq_true, decide_eq_true_eq, beq_iff_eq, Bool.and_true, Bool.and_false, Bool.not_true, Bool.not_false, Bool.false_eq_true, false_iff] <;> omega
  · constructor
    · intro hv; unfold vld at hv; simp [h] at hv
    · intro hv; omega

def f0 (c : UInt8) : Option Int := if c = 97 then some 1073741824 else if c = 100 then some 2147483648 else if c = 45 then some 0 else none
def fl (m : Int) (c want : UInt8) (b : Int) : Option Int := if c = want then some (m + b) else if c = 45 then some m else none
/-- What the letters up to k say. -/
def pre (l : List UInt8) : Nat → Option Int
  | 0 => some 0
  | k + 1 => (pre l k).bind fun m => if k = 0 then f0 (l.getD 0 0) else if k = 1 then fl m (l.getD 1 0) 108 536870912 else fl m (l.getD k 0) (rwx (10 - k)) (2 ^ (10 - k))
def prs (l : List UInt8) : Option Int := if l.length = 11 then pre l 11 else none

/-- What the reference adds up, letter by letter. -/
def rpre (l : List UInt8) : Nat → Int
  | 0 => 0
  | k + 1 => if k = 0 then (if l.getD 0 0 = 97 then 1073741824 else if l.getD 0 0 = 100 then 2147483648 else 0) else if k = 1 then rpre l k + (if l.getD 1 0 = 108 then 536870912 else 0) else rpre l k + (if l.getD k 0 = 45 then 0 else 2 ^ (10 - k))

theorem rwx_ne (i : Nat) : rwx i ≠ 45 := by
  unfold rwx
  by_cases a : i % 3 = 0
  · rw [if_pos a]; decide
  · by_cases b : i % 3 = 1
    · rw [if_neg a, if_pos b]; decide
    · rw [if_neg a, if_neg b]; decide
theorem pre_rpre (l : List UInt8) : ∀ k m, pre l k = some m → rpre l k = m := by
  intro k
  induction k with
  | zero => intro m h; simpa [pre, rpre] using h
  | succ k ih =>
    intro m h
    rw [pre, Option.bind_eq_some_iff] at h
    obtain ⟨m', h1, h2⟩ := h
    have e := ih _ h1
    rw [rpre]
    by_cases k0 : k = 0
    · rw [if_pos k0] at h2 ⊢
      unfold f0 at h2
      by_cases a1 : l.getD 0 0 = 97
      · rw [if_pos a1] at h2 ⊢; exact Option.some.inj h2
      · by_cases a2 : l.getD 0 0 = 100
        · rw [if_neg a1, if_pos a2] at h2 ⊢; exact Option.some.inj h2
        · rw [if_neg a1, if_neg a2] at h2 ⊢
          by_cases a3 : l.getD 0 0 = 45
          · rw [if_pos a3] at h2; exact Option.some.inj h2
          · rw [if_neg a3] at h2; cases h2
    · rw [if_neg k0] at h2 ⊢
      by_cases k1 : k = 1
      · rw [if_pos k1] at h2 ⊢
        rw [e]
        unfold fl at h2
        by_cases a1 : l.getD 1 0 = 108
        · rw [if_pos a1] at h2 ⊢; exact Option.some.inj h2
        · rw [if_neg a1] at h2 ⊢
          by_cases a3 : l.getD 1 0 = 45
          · rw [if_pos a3] at h2; rw [← Option.some.inj h2]; omega
          · rw [if_neg a3] at h2; cases h2
      · rw [if_neg k1] at h2 ⊢
        rw [e]
        unfold fl at h2
        have hr := rwx_ne (10 - k)
        by_cases a3 : l.getD k 0 = 45
        · rw [if_pos a3, if_neg (by rw [a3]; exact fun e => hr e.symm)] at h2
          rw [if_pos a3, ← Option.some.inj h2]; omega
        · rw [if_neg a3] at h2 ⊢
          by_cases a1 : l.getD k 0 = rwx (10 - k)
          · rw [if_pos a1] at h2; exact Option.some.inj h2
          · rw [if_neg a1] at h2; cases h2

/-- The letters up to k are those of a mode. -/
theorem f0_some {c : UInt8} {v : Int} (h : f0 c = some v) : ∃ d a : Int, (0 ≤ d ∧ 0 ≤ a ∧ d + a ≤ 1) ∧ v = 2147483648 * d + 1073741824 * a ∧ c = if d = 1 then 100 else if a = 1 then 97 else 45 := by
  unfold f0 at h
  by_cases a1 : c = 97
  · rw [if_pos a1] at h; cases h; exact ⟨0, 1, by omega, by omega, by simpa using a1⟩
  · by_cases a2 : c = 100
    · rw [if_neg a1, if_pos a2] at h; cases h; exact ⟨1, 0, by omega, by omega, by simpa using a2⟩
    · rw [if_neg a1, if_neg a2] at h
      by_cases a3 : c = 45
      · rw [if_pos a3] at h; cases h; exact ⟨0, 0, by omega, by omega, by simpa using a3⟩
      · rw [if_neg a3] at h; cases h
theorem fl_some {m : Int} {c w : UInt8} {b v : Int} (h : fl m c w b = some v) : ∃ t : Int, (0 ≤ t ∧ t ≤ 1) ∧ v = m + b * t ∧ c = if t = 1 then w else 45 := by
  unfold fl at h
  by_cases a1 : c = w
  · rw [if_pos a1] at h; cases h; exact ⟨1, by omega, by omega, by simpa using a1⟩
  · rw [if_neg a1] at h
    by_cases a3 : c = 45
    · rw [if_pos a3] at h; cases h; exact ⟨0, by omega, by omega, by simpa using a3⟩
    · rw [if_neg a3] at h; cases h
theorem mod2 (K t : Int) (h0 : 0 ≤ t) (h1 : t ≤ 1) : (2 * K + t) % 2 = t := by omega
theorem mod1 (t : Int) (h0 : 0 ≤ t) (h1 : t ≤ 1) : t % 2 = t := by omega
theorem low9 {m y K : Int} (h : m = 512 * K + y) : (m / 256 % 2 = y / 256 % 2 ∧ m / 128 % 2 = y / 128 % 2 ∧ m / 64 % 2 = y / 64 % 2) ∧ (m / 32 % 2 = y / 32 % 2 ∧ m / 16 % 2 = y / 16 % 2 ∧ m / 8 % 2 = y / 8 % 2) ∧ (m / 4 % 2 = y / 4 % 2 ∧ m / 2 % 2 = y / 2 % 2 ∧ m / 1 % 2 = y % 2) := by
  refine ⟨⟨?_, ?_, ?_⟩, ⟨?_, ?_, ?_⟩, ?_, ?_, ?_⟩ <;> omega
set_option maxHeartbeats 1000000 in
theorem digits {m d a x t8 t7 t6 t5 t4 t3 t2 t1 t0 : Int} (pd : 0 ≤ d) (pa : 0 ≤ a) (qda : d + a ≤ 1) (px : 0 ≤ x) (qx : x ≤ 1) (p8 : 0 ≤ t8) (q8 : t8 ≤ 1) (p7 : 0 ≤ t7) (q7 : t7 ≤ 1) (p6 : 0 ≤ t6) (q6 : t6 ≤ 1) (p5 : 0 ≤ t5) (q5 : t5 ≤ 1)
    (p4 : 0 ≤ t4) (q4 : t4 ≤ 1) (p3 : 0 ≤ t3) (q3 : t3 ≤ 1) (p2 : 0 ≤ t2) (q2 : t2 ≤ 1) (p1 : 0 ≤ t1) (q1 : t1 ≤ 1) (p0 : 0 ≤ t0) (q0 : t0 ≤ 1)
    (hm : m = 2147483648 * d + 1073741824 * a + 536870912 * x + 256 * t8 + 128 * t7 + 64 * t6 + 32 * t5 + 16 * t4 + 8 * t3 + 4 * t2 + 2 * t1 + t0) :
    (m / 2147483648 % 2 = d ∧ m / 1073741824 % 2 = a ∧ m / 536870912 % 2 = x) ∧ (m / 256 % 2 = t8 ∧ m / 128 % 2 = t7 ∧ m / 64 % 2 = t6) ∧ (m / 32 % 2 = t5 ∧ m / 16 % 2 = t4 ∧ m / 8 % 2 = t3) ∧ (m / 4 % 2 = t2 ∧ m / 2 % 2 = t1 ∧ m / 1 % 2 = t0) ∧ (0 ≤ m ∧ m < 4294967296 ∧ m / 512 % 1048576 = 0) := by
  have low : 0 ≤ 256 * t8 + 128 * t7 + 64 * t6 + 32 * t5 + 16 * t4 + 8 * t3 + 4 * t2 + 2 * t1 + t0 ∧ 256 * t8 + 128 * t7 + 64 * t6 + 32 * t5 + 16 * t4 + 8 * t3 + 4 * t2 + 2 * t1 + t0 ≤ 511 := by omega
  obtain ⟨y, hy⟩ : ∃ y, y = 256 * t8 + 128 * t7 + 64 * t6 + 32 * t5 + 16 * t4 + 8 * t3 + 4 * t2 + 2 * t1 + t0 := ⟨_, rfl⟩
  rw [← hy] at low
  have hm2 : m = 2147483648 * d + 1073741824 * a + 536870912 * x + y := by omega
  clear hm
  have u : (m / 2147483648 % 2 = d ∧ m / 1073741824 % 2 = a ∧ m / 536870912 % 2 = x) ∧ (0 ≤ m ∧ m < 4294967296 ∧ m / 512 % 1048576 = 0) := by
    clear hy p8 q8 p7 q7 p6 q6 p5 q5 p4 q4 p3 q3 p2 q2 p1 q1 p0 q0
    have e1 : m / 2147483648 = d := by omega
    have e2 : m / 1073741824 = 2 * d + a := by omega
    have e3 : m / 536870912 = 4 * d + 2 * a + x := by omega
    have e4 : m / 512 = 4194304 * d + 2097152 * a + 1048576 * x := by omega
    rw [e1, e2, e3, e4]
    clear e1 e2 e3 e4
    refine ⟨⟨?_, ?_, ?_⟩, ?_, ?_, ?_⟩ <;> omega
  obtain ⟨v, v', v''⟩ := low9 (m := m) (y := y) (K := 4194304 * d + 2097152 * a + 1048576 * x) (by omega)
  clear hm2 low pd pa qda px qx
  have z1 : y / 2 = 2 * (64 * t8 + 32 * t7 + 16 * t6 + 8 * t5 + 4 * t4 + 2 * t3 + t2) + t1 ∧ y % 2 = t0 := by clear u v v' v''; omega
  have z2 : y / 4 = 2 * (32 * t8 + 16 * t7 + 8 * t6 + 4 * t5 + 2 * t4 + t3) + t2 := by clear u v v' v'' hy; omega
  have z3 : y / 8 = 2 * (16 * t8 + 8 * t7 + 4 * t6 + 2 * t5 + t4) + t3 := by clear u v v' v'' hy z1; omega
  have z4 : y / 16 = 2 * (8 * t8 + 4 * t7 + 2 * t6 + t5) + t4 := by clear u v v' v'' hy z1 z2; omega
  have z5 : y / 32 = 2 * (4 * t8 + 2 * t7 + t6) + t5 := by clear u v v' v'' hy z1 z2 z3; omega
  have z6 : y / 64 = 2 * (2 * t8 + t7) + t6 := by clear u v v' v'' hy z1 z2 z3 z4; omega
  have z7 : y / 128 = 2 * t8 + t7 := by clear u v v' v'' hy z1 z2 z3 z4 z5; omega
  have z8 : y / 256 = t8 := by clear u v v' v'' hy z1 z2 z3 z4 z5 z6; omega
  refine ⟨u.1, ⟨?_, ?_, ?_⟩, ⟨?_, ?_, ?_⟩, ⟨?_, ?_, ?_⟩, u.2⟩
  · rw [v.1, z8]; exact mod1 _ p8 q8
  · rw [v.2.1, z7]; exact mod2 _ _ p7 q7
  · rw [v.2.2, z6]; exact mod2 _ _ p6 q6
  · rw [v'.1, z5]; exact mod2 _ _ p5 q5
  · rw [v'.2.1, z4]; exact mod2 _ _ p4 q4
  · rw [v'.2.2, z3]; exact mod2 _ _ p3 q3
  · rw [v''.1, z2]; exact mod2 _ _ p2 q2
  · rw [v''.2.1, z1.1]; exact mod2 _ _ p1 q1
  · rw [v''.2.2, z1.2]
theorem pre_step {l : List UInt8} {k : Nat} {m : Int} (h : pre l (k + 1) = some m) (hk : 2 ≤ k) : ∃ m' t : Int, pre l k = some m' ∧ (0 ≤ t ∧ t ≤ 1) ∧ m = m' + 2 ^ (10 - k) * t ∧ l.getD k 0 = if t = 1 then rwx (10 - k) else 45 := by
  rw [pre, Option.bind_eq_some_iff] at h
  obtain ⟨m', h1, h2⟩ := h
  rw [if_neg (by omega), if_neg (by omega)] at h2
  obtain ⟨t, a, b, c⟩ := fl_some h2
  exact ⟨m', t, h1, a, b, c⟩

theorem list11 {l : List UInt8} (h : l.length = 11) : l = [l.getD 0 0, l.getD 1 0, l.getD 2 0, l.getD 3 0, l.getD 4 0, l.getD 5 0, l.getD 6 0, l.getD 7 0, l.getD 8 0, l.getD 9 0, l.getD 10 0] := by
  match l, h with
  | [a0, a1, a2, a3, a4, a5, a6, a7, a8, a9, a10], _ => rfl

set_option maxHeartbeats 1000000 in
theorem prs_some {l : List UInt8} {m : Int} (h : prs l = some m) : vld m = true ∧ txt m = l := by
  unfold prs at h
  by_cases hl : l.length = 11
  · rw [if_pos hl] at h
    obtain ⟨m10, t0, h, ⟨p0, q0⟩, e0, l10⟩ := pre_step h (by omega)
    obtain ⟨m9, t1, h, ⟨p1, q1⟩, e1, l9⟩ := pre_step h (by omega)
    obtain ⟨m8, t2, h, ⟨p2, q2⟩, e2, l8⟩ := pre_step h (by omega)
    obtain ⟨m7, t3, h, ⟨p3, q3⟩, e3, l7⟩ := pre_step h (by omega)
    obtain ⟨m6, t4, h, ⟨p4, q4⟩, e4, l6⟩ := pre_step h (by omega)
    obtain ⟨m5, t5, h, ⟨p5, q5⟩, e5, l5⟩ := pre_step h (by omega)
    obtain ⟨m4, t6, h, ⟨p6, q6⟩, e6, l4⟩ := pre_step h (by omega)
    obtain ⟨m3, t7, h, ⟨p7, q7⟩, e7, l3⟩ := pre_step h (by omega)
    obtain ⟨m2, t8, h, ⟨p8, q8⟩, e8, l2⟩ := pre_step h (by omega)
    rw [pre, Option.bind_eq_some_iff] at h
    obtain ⟨m1, h, h2⟩ := h
    rw [if_neg (by omega), if_pos rfl] at h2
    obtain ⟨x, ⟨px, qx⟩, ex, l1⟩ := fl_some h2
    rw [pre, pre, Option.bind_some, if_pos rfl] at h
    obtain ⟨d, a, ⟨pd, pa, qda⟩, em, l0⟩ := f0_some h
    clear h h2
    simp only [Nat.sub_self, Nat.reduceSub, Int.reducePow] at e0 e1 e2 e3 e4 e5 e6 e7 e8
    have hm : m = 2147483648 * d + 1073741824 * a + 536870912 * x + 256 * t8 + 128 * t7 + 64 * t6 + 32 * t5 + 16 * t4 + 8 * t3 + 4 * t2 + 2 * t1 + t0 := by omega
    clear e0 e1 e2 e3 e4 e5 e6 e7 e8 ex em
    obtain ⟨⟨hd, ha, hx⟩, ⟨g8, g7, g6⟩, ⟨g5, g4, g3⟩, ⟨g2, g1, g0⟩, h0, h1, h2⟩ := digits pd pa qda px qx p8 q8 p7 q7 p6 q6 p5 q5 p4 q4 p3 q3 p2 q2 p1 q1 p0 q0 hm
    have hv : vld m = true := (vld_iff m).2 ⟨h0, h1, h2, by rw [hd, ha]; omega⟩
    refine ⟨hv, ?_⟩
    unfold txt
    rw [if_pos hv, list11 hl, l0, l1, l2, l3, l4, l5, l6, l7, l8, l9, l10]
    have b0 : c0 m = if d = 1 then 100 else if a = 1 then 97 else 45 := by
      unfold c0 bit; simp [h0, hd, ha]
    have b1 : c1 m = if x = 1 then 108 else 45 := by
      unfold c1 bit; simp [h0, hx]
    rw [b0, b1]
    simp only [ltrs, ltr, List.range, List.range.loop, List.map_cons, List.map_nil, Nat.sub_zero, Nat.reduceSub, Nat.sub_self, Int.reducePow, g8, g7, g6, g5, g4, g3, g2, g1, g0]
  · rw [if_neg hl] at h; cases h

theorem fl_ltr (m b : Int) (w : UInt8) (v : Int) (hw : w ≠ 45) : fl m (if v = 1 then w else 45) w b = some (m + if v = 1 then b else 0) := by
  unfold fl
  split <;> rename_i h
  · rw [if_pos rfl]
  · rw [if_neg (fun e => hw e.symm), if_pos rfl]; simp
set_option maxHeartbeats 1000000 in
theorem prs_txt {m : Int} (h : vld m = true) : prs (txt m) = some m := by
  have hv := (vld_iff m).1 h
  obtain ⟨h0, h1, h2, h3⟩ := hv
  unfold txt prs
  rw [if_pos h]
  have hlen : (c0 m :: c1 m :: ltrs m 9).length = 11 := by simp [ltrs]
  rw [if_pos hlen]
  have e0 : f0 (c0 m) = some (2147483648 * (m / 2147483648 % 2) + 1073741824 * (m / 1073741824 % 2)) := by
    have d2 : m / 2147483648 % 2 = 0 ∨ m / 2147483648 % 2 = 1 := by omega
    have a2 : m / 1073741824 % 2 = 0 ∨ m / 1073741824 % 2 = 1 := by omega
    unfold c0 bit
    rcases d2 with d2 | d2 <;> rcases a2 with a2 | a2
    · simp [h0, d2, a2, f0]
    · simp [h0, d2, a2, f0]
    · simp [h0, d2, a2, f0]
    · exact absurd ⟨d2, a2⟩ h3
  have e1 : c1 m = if m / 536870912 % 2 = 1 then 108 else 45 := by unfold c1 bit; simp [h0]
  simp only [pre, Option.bind_some, ltrs, List.range, List.range.loop, List.map_cons, List.map_nil, List.getD_cons_zero, List.getD_cons_succ, e0, e1, ltr, Nat.sub_zero, Nat.reduceSub, Nat.sub_self, Int.reducePow, if_true, Nat.reduceEqDiff, if_false, Nat.one_ne_zero]
  simp only [fl_ltr _ _ _ _ (show (108 : UInt8) ≠ 45 by decide), fl_ltr _ _ _ _ (show rwx 8 ≠ 45 by decide), fl_ltr _ _ _ _ (show rwx 7 ≠ 45 by decide), fl_ltr _ _ _ _ (show rwx 6 ≠ 45 by decide), fl_ltr _ _ _ _ (show rwx 5 ≠ 45 by decide), fl_ltr _ _ _ _ (show rwx 4 ≠ 45 by decide), fl_ltr _ _ _ _ (show rwx 3 ≠ 45 by decide), fl_ltr _ _ _ _ (show rwx 2 ≠ 45 by decide), fl_ltr _ _ _ _ (show rwx 1 ≠ 45 by decide), fl_ltr _ _ _ _ (show rwx 0 ≠ 45 by decide), Option.bind_some]
  congr 1
  have on1 : ∀ (v b : Int), (v = 0 ∨ v = 1) → (if v = 1 then b else 0) = b * v := by
    intro v b hv; rcases hv with rfl | rfl <;> simp
  have z : ∀ x : Int, x % 2 = 0 ∨ x % 2 = 1 := fun x => by omega
  simp only [on1 _ _ (z _)]
  omega
theorem txt_len {m : Int} (h : vld m = true) : (txt m).length = 11 := by unfold txt; rw [if_pos h]; simp [ltrs]
theorem txt_empty {m : Int} (h : vld m = false) : txt m = [] := by unfold txt; simp [h]

/-- The reference's way: what its letters add up to, if its text is the given one. -/
def rprs (l : List UInt8) : Option Int := if l.length = 11 then (if txt (rpre l 11) = l then some (rpre l 11) else none) else none
theorem rprs_eq (l : List UInt8) : rprs l = prs l := by
  unfold rprs
  by_cases hl : l.length = 11
  · rw [if_pos hl]
    by_cases ht : txt (rpre l 11) = l
    · rw [if_pos ht]
      cases hv : vld (rpre l 11) with
      | false => rw [txt_empty hv] at ht; rw [← ht] at hl; simp at hl
      | true => have := prs_txt hv; rw [ht] at this; exact this.symm
    · rw [if_neg ht]
      cases hp : prs l with
      | none => rfl
      | some m =>
        obtain ⟨_, h2⟩ := prs_some hp
        unfold prs at hp; rw [if_pos hl] at hp
        rw [pre_rpre _ _ _ hp] at ht
        exact absurd h2 ht
  · rw [if_neg hl]; unfold prs; rw [if_neg hl]
end Prm
end Go.Proofs.Ytjefmjaommpaaaa
