/- Plain facts about the encodings of layer 2 (fixed-width little-endian numbers, counted strings, hexadecimal digits), as functions on lists of bytes. Conditions: none beyond those that each fact names. No program in sight. -/
namespace Go.Proofs.YtfibaopngpfmjaaGreatDoor.Oct

/-- The k lowest bytes of n, the least significant first. -/
def le : Nat → Nat → List UInt8
  | 0, _ => []
  | k + 1, n => UInt8.ofNat n :: le k (n / 256)

/-- The number that bytes, the least significant first, stand for. -/
def leVal : List UInt8 → Nat
  | [] => 0
  | x :: r => x.toNat + 256 * leVal r

theorem le_length (k n : Nat) : (le k n).length = k := by
  induction k generalizing n with
  | zero => rfl
  | succ k ih => simp [le, ih]

theorem leVal_lt (l : List UInt8) : leVal l < 256 ^ l.length := by
  induction l with
  | nil => simp [leVal]
  | cons x r ih =>
    have := x.toNat_lt
    simp only [leVal, List.length_cons, Nat.pow_succ]
    omega

theorem leVal_le (k n : Nat) : leVal (le k n) = n % 256 ^ k := by
  induction k generalizing n with
  | zero => simp [le, leVal, Nat.mod_one]
  | succ k ih =>
    simp only [le, leVal, ih]
    have h1 : (UInt8.ofNat n).toNat = n % 256 := by simp
    rw [h1, Nat.pow_succ, Nat.mul_comm (256 ^ k) 256, Nat.mod_mul]

theorem le_leVal (l : List UInt8) : le l.length (leVal l) = l := by
  induction l with
  | nil => rfl
  | cons x r ih =>
    have hx := x.toNat_lt
    simp only [List.length_cons, le, leVal]
    have e1 : UInt8.ofNat (x.toNat + 256 * leVal r) = x := by
      apply UInt8.toNat_inj.1
      simp
    have e2 : (x.toNat + 256 * leVal r) / 256 = leVal r := by omega
    rw [e1, e2, ih]

theorem le_snoc (k n : Nat) : le (k + 1) n = le k n ++ [UInt8.ofNat (n / 256 ^ k)] := by
  induction k generalizing n with
  | zero => simp [le]
  | succ k ih =>
    rw [le, ih, le]
    simp only [List.cons_append, Nat.div_div_eq_div_mul, Nat.pow_succ, Nat.mul_comm]

theorem leVal_append (a b : List UInt8) : leVal (a ++ b) = leVal a + 256 ^ a.length * leVal b := by
  induction a with
  | nil => simp [leVal]
  | cons x r ih =>
    simp only [List.cons_append, leVal, ih, List.length_cons, Nat.pow_succ]
    rw [Nat.mul_add, ← Nat.mul_assoc, Nat.mul_comm 256 (256 ^ r.length)]
    omega

/-! ## Put -/
def putE (n w : Int) : Int := if w < 1 ∨ 8 < w then 1 else if n < 0 ∨ (256 : Int) ^ w.toNat ≤ n then 5 else 0
def putS (n w : Int) : List UInt8 := if putE n w = 0 then le w.toNat n.toNat else []

/-! ## Get -/
def part (s : List UInt8) (at_ w : Int) : List UInt8 := (s.drop at_.toNat).take w.toNat
def getE (s : List UInt8) (at_ w : Int) : Int :=
  if w < 1 ∨ 8 < w ∨ at_ < 0 ∨ (s.length : Int) < at_ then 1 else if (s.length : Int) - at_ < w then 3
  else if 9223372036854775808 ≤ leVal (part s at_ w) then 5 else 0
def getN (s : List UInt8) (at_ w : Int) : Int := if getE s at_ w = 0 then (leVal (part s at_ w) : Int) else 0
def getT (s : List UInt8) (at_ w : Int) : Int := if getE s at_ w = 0 then at_ + w else 0

/-! ## PutText, GetText -/
def ptE (s : List UInt8) : Int := if 65535 < s.length then 4 else 0
def ptS (s : List UInt8) : List UInt8 := if 65535 < s.length then [] else le 2 s.length ++ s
def gtE (s : List UInt8) (at_ : Int) : Int :=
  if getE s at_ 2 ≠ 0 then getE s at_ 2 else if (s.length : Int) - getT s at_ 2 < getN s at_ 2 then 3 else 0
def gtS (s : List UInt8) (at_ : Int) : List UInt8 := if gtE s at_ = 0 then (s.drop (getT s at_ 2).toNat).take (getN s at_ 2).toNat else []
def gtT (s : List UInt8) (at_ : Int) : Int := if gtE s at_ = 0 then getT s at_ 2 + getN s at_ 2 else 0

/-! ## Hex, Unhex -/
def dig (n : Nat) : UInt8 := if n < 10 then UInt8.ofNat (48 + n) else UInt8.ofNat (87 + n)
def val (c : UInt8) : Int := if 48 ≤ c.toNat ∧ c.toNat ≤ 57 then c.toNat - 48 else if 97 ≤ c.toNat ∧ c.toNat ≤ 102 then c.toNat - 87 else -1
def hex : List UInt8 → List UInt8
  | [] => []
  | c :: r => dig (c.toNat / 16) :: dig (c.toNat % 16) :: hex r
/-- none: a byte that is no digit, or an odd number of bytes. -/
def unhex : List UInt8 → Option (List UInt8)
  | [] => some []
  | [_] => none
  | a :: b :: r => if val a < 0 ∨ val b < 0 then none else (unhex r).map (UInt8.ofNat (val a * 16 + val b).toNat :: ·)

theorem val_dig (n : Nat) (h : n < 16) : val (dig n) = n := by
  unfold dig val
  split <;> simp <;> omega

theorem dig_val (c : UInt8) (h : ¬ val c < 0) : dig (val c).toNat = c := by
  have hc := c.toNat_lt
  unfold val at h ⊢
  unfold dig
  apply UInt8.toNat_inj.1
  split <;> rename_i h1
  · rw [if_pos (by omega)]; simp; omega
  · split <;> rename_i h2
    · rw [if_neg (by omega)]; simp; omega
    · rw [if_neg h1, if_neg h2] at h; omega

theorem val_lt (c : UInt8) : -1 ≤ val c ∧ val c < 16 := by
  unfold val; split <;> (try split) <;> omega

theorem hex_length (l : List UInt8) : (hex l).length = 2 * l.length := by
  induction l with
  | nil => rfl
  | cons c r ih => simp [hex, ih]; omega

theorem hex_append (a b : List UInt8) : hex (a ++ b) = hex a ++ hex b := by
  induction a with
  | nil => rfl
  | cons c r ih => simp [hex, ih]

theorem unhex_hex (l : List UInt8) : unhex (hex l) = some l := by
  induction l with
  | nil => rfl
  | cons c r ih =>
    have hc := c.toNat_lt
    rw [hex, unhex, val_dig _ (by omega), val_dig _ (by omega), ih, if_neg (by omega)]
    simp only [Option.map_some, Option.some.injEq, List.cons.injEq, and_true]
    apply UInt8.toNat_inj.1
    simp
    omega

theorem hex_unhex (n : Nat) : ∀ (l r : List UInt8), l.length ≤ n → unhex l = some r → hex r = l := by
  induction n with
  | zero =>
    intro l r hl h
    have : l = [] := List.eq_nil_of_length_eq_zero (by omega)
    subst this
    simp [unhex] at h
    subst h; rfl
  | succ n ih =>
    intro l r hl h
    match l, h with
    | [], h => simp [unhex] at h; subst h; rfl
    | [_], h => simp [unhex] at h
    | a :: b :: t, h =>
      rw [unhex] at h
      split at h
      · cases h
      · rename_i hv
        obtain ⟨q, hq, rfl⟩ := Option.map_eq_some_iff.1 h
        have e := ih t q (by simp at hl; omega) hq
        have ha := val_lt a
        have hb := val_lt b
        have hva : ¬ val a < 0 := fun h => hv (.inl h)
        have hvb : ¬ val b < 0 := fun h => hv (.inr h)
        have e1 : (UInt8.ofNat (val a * 16 + val b).toNat).toNat = (val a * 16 + val b).toNat := by
          simp; omega
        rw [hex, e, e1]
        have e2 : (val a * 16 + val b).toNat / 16 = (val a).toNat := by omega
        have e3 : (val a * 16 + val b).toNat % 16 = (val b).toNat := by omega
        rw [e2, e3, dig_val a hva, dig_val b hvb]

theorem unhex_length (l r : List UInt8) (h : unhex l = some r) : l.length = 2 * r.length := by
  have := hex_unhex l.length l r (Nat.le_refl _) h
  rw [← this, hex_length]

theorem unhex_odd (l : List UInt8) (h : l.length % 2 = 1) : unhex l = none := by
  cases hu : unhex l with
  | none => rfl
  | some r => have := unhex_length l r hu; omega

end Go.Proofs.YtfibaopngpfmjaaGreatDoor.Oct
