/- Keys, conversations and their messages, as functions on lists: what both sides of layers 22 and 25 compute. Conditions: none beyond those that each fact names. -/
import Derived.Test.YtjjdaelddicokaaGreatDoorKit
import Derived.Test.YtjjdaelddicokaaGreatDoorOctMath
import Derived.Test.YtjjdaelddicokaaGreatDoorShaMath
set_option linter.unusedVariables false
namespace Go.Proofs.YtjjdaelddicokaaGreatDoor
namespace Au
/-- An attribute. -/
structure Att where
  name : List UInt8
  value : List UInt8
  query : Bool
deriving DecidableEq
/-- A conversation. -/
structure Cnv where
  id : Int
  proto : List UInt8
  role : Int
  phase : Int
  step : Int
  key : List Att
  own : List UInt8
  peer : List UInt8
  user : List UInt8
  err : Int
deriving DecidableEq
def sChal : List UInt8 := [99, 104, 97, 108]
def sMutual : List UInt8 := [109, 117, 116, 117, 97, 108]
def sPlain : List UInt8 := [112, 108, 97, 105, 110]
def sUser : List UInt8 := [117, 115, 101, 114]
def sSecret : List UInt8 := [33, 115, 101, 99, 114, 101, 116]
def sOk : List UInt8 := [111, 107]
def sServer : List UInt8 := [115, 101, 114, 118, 101, 114]
def sClient : List UInt8 := [99, 108, 105, 101, 110, 116]
/-! Layer 22. -/
/-- A name without the mark of a secret. -/
def strip : List UInt8 → List UInt8
  | [] => []
  | c :: s => if c = 33 then s else c :: s
def letter (c : UInt8) : Bool := decide (97 ≤ c.toNat) && decide (c.toNat ≤ 122)
def digit (c : UInt8) : Bool := decide (48 ≤ c.toNat) && decide (c.toNat ≤ 57)
def nameCh (c : UInt8) : Bool := letter c || digit c || decide (c.toNat = 45) || decide (c.toNat = 95)
def headLetter : List UInt8 → Bool
  | [] => false
  | c :: _ => letter c
def bareOk (t : List UInt8) : Bool := decide (t.length ≤ 32) && headLetter t && t.all nameCh
def nameOk (s : List UInt8) : Bool := bareOk (strip s)
def plainCh (c : UInt8) : Bool := decide (c.toNat ≠ 0) && decide (c.toNat ≠ 10) && decide (c.toNat ≠ 13)
def plainT (s : List UInt8) : Bool := s.all plainCh
/-- No query, and of a name. -/
def isNm (n : List UInt8) (a : Att) : Bool := !a.query && decide (a.name = n)
def sameNm (a b : Att) : Bool := decide (b.name = a.name)
/-- The error of an attribute behind others. -/
def one (before : List Att) (a : Att) : Int :=
  if 32 ≤ before.length then 22 else if nameOk a.name = false then 6 else if a.query = true ∧ a.value ≠ [] then 2 else if plainT a.value = false then 2
  else if 1024 < a.value.length then 4 else if before.any (sameNm a) = true then 7 else 0
def checkFrom (before : List Att) : List Att → Int
  | [] => 0
  | a :: l => if one before a = 0 then checkFrom (before ++ [a]) l else one before a
def check (l : List Att) : Int := checkFrom [] l
theorem checkFrom_at (l : List Att) : ∀ (before : List Att) (k : Nat) (h : k < l.length), (∀ j (hj : j < k), one (before ++ l.take j) (l[j]'(by omega)) = 0) → one (before ++ l.take k) l[k] ≠ 0 → checkFrom before l = one (before ++ l.take k) l[k] := by
  induction l with
  | nil => intro before k h; simp at h
  | cons a l ih =>
    intro before k h h0 hk
    cases k with
    | zero =>
      simp only [List.take_zero, List.append_nil, List.getElem_cons_zero] at hk ⊢
      rw [checkFrom, if_neg hk]
    | succ k =>
      have h00 := h0 0 (by omega)
      simp only [List.take_zero, List.append_nil, List.getElem_cons_zero] at h00
      rw [checkFrom, if_pos h00, ih (before ++ [a]) k (by simpa using h) ?_ ?_]
      · simp
      · intro j hj
        have := h0 (j + 1) (by omega)
        simpa using this
      · simpa using hk
theorem checkFrom_none (l : List Att) : ∀ (before : List Att), (∀ j (h : j < l.length), one (before ++ l.take j) l[j] = 0) → checkFrom before l = 0 := by
  induction l with
  | nil => intro before _; rfl
  | cons a l ih =>
    intro before h0
    have h00 := h0 0 (by simp)
    simp only [List.take_zero, List.append_nil, List.getElem_cons_zero] at h00
    rw [checkFrom, if_pos h00]
    refine ih _ fun j hj => ?_
    have := h0 (j + 1) (by simpa using hj)
    simpa using this
theorem check_at (l : List Att) (k : Nat) (h : k < l.length) (h0 : ∀ j (hj : j < k), one (l.take j) (l[j]'(by omega)) = 0) (hk : one (l.take k) l[k] ≠ 0) : check l = one (l.take k) l[k] := by
  have := checkFrom_at l [] k h (by simpa using h0) (by simpa using hk)
  simpa [check] using this
theorem check_none (l : List Att) (h0 : ∀ j (h : j < l.length), one (l.take j) l[j] = 0) : check l = 0 := checkFrom_none l [] (by simpa using h0)
/-- The number of the first attribute that passes a test. -/
def ix (p : Att → Bool) : List Att → Int
  | [] => -1
  | a :: l => if p a = true then 0 else if ix p l < 0 then -1 else ix p l + 1
theorem ix_ge (p : Att → Bool) (l : List Att) : -1 ≤ ix p l ∧ ix p l < l.length := by
  induction l with
  | nil => simp [ix]
  | cons a l ih =>
    rw [ix]
    split
    · simp
    · split
      · simp; omega
      · simp; omega
theorem ix_none (p : Att → Bool) (l : List Att) (h : ∀ j (hj : j < l.length), ¬ p l[j] = true) : ix p l = -1 := by
  induction l with
  | nil => rfl
  | cons a l ih =>
    have h0 := h 0 (by simp)
    simp only [List.getElem_cons_zero] at h0
    have := ih fun j hj => by have := h (j + 1) (by simpa using hj); simpa using this
    rw [ix, if_neg h0, this, if_pos (by decide)]
theorem ix_at (p : Att → Bool) (l : List Att) : ∀ (k : Nat) (h : k < l.length), (∀ j (hj : j < k), ¬ p (l[j]'(by omega)) = true) → p l[k] = true → ix p l = k := by
  induction l with
  | nil => intro k h; simp at h
  | cons a l ih =>
    intro k h h0 hk
    cases k with
    | zero => simp only [List.getElem_cons_zero] at hk; rw [ix, if_pos hk]; rfl
    | succ k =>
      have h00 := h0 0 (by omega)
      simp only [List.getElem_cons_zero] at h00
      have := ih k (by simpa using h) (fun j hj => by have := h0 (j + 1) (by omega); simpa using this) (by simpa using hk)
      rw [ix, if_neg h00, this, if_neg (by omega)]
      simp
theorem ix_is {p : Att → Bool} {l : List Att} {k : Nat} (h : ix p l = k) : ∃ hk : k < l.length, p l[k] = true := by
  induction l generalizing k with
  | nil => simp only [ix] at h; omega
  | cons a l ih =>
    rw [ix] at h
    split at h
    · rename_i h0
      have : k = 0 := by omega
      subst this
      exact ⟨by simp, h0⟩
    · split at h
      · omega
      · have h2 : ix p l = ((k - 1 : Nat) : Int) := by omega
        obtain ⟨h3, h4⟩ := ih h2
        have : k = (k - 1) + 1 := by omega
        rw [this]
        exact ⟨by simp; omega, by simpa using h4⟩
theorem ix_any (p : Att → Bool) (l : List Att) : l.any p = decide (0 ≤ ix p l) := by
  induction l with
  | nil => rfl
  | cons a l ih =>
    rw [List.any_cons, ih, ix]
    cases p a
    · have := (ix_ge p l).1
      by_cases h : ix p l < 0
      · simp [h]
      · simp [h]; omega
    · simp
def idx (n : List UInt8) (l : List Att) : Int := ix (isNm n) l
def has (n : List UInt8) (l : List Att) : Bool := decide (0 ≤ idx n l)
def find (n : List UInt8) (l : List Att) : List UInt8 := match l[(idx n l).toNat]? with | some a => if 0 ≤ idx n l then a.value else [] | none => []
theorem find_none {n : List UInt8} {l : List Att} (h : idx n l < 0) : has n l = false ∧ find n l = [] := by
  refine ⟨decide_eq_false (by omega), ?_⟩
  unfold find
  split
  · rw [if_neg (by omega)]
  · rfl
theorem find_some {n : List UInt8} {l : List Att} {k : Nat} (hk : k < l.length) (h : idx n l = k) : has n l = true ∧ find n l = l[k].value := by
  refine ⟨decide_eq_true (by omega), ?_⟩
  unfold find
  rw [h, Int.toNat_natCast, List.getElem?_eq_getElem hk]
  simp
/-! Layer 25. -/
def user (l : List Att) : List UInt8 := find sUser l
def sec (l : List Att) : List UInt8 := find sSecret l
/-- A list that is valid is a key. -/
def keyOk (l : List Att) : Bool := decide (1 ≤ (user l).length) && decide ((user l).length ≤ 32) && decide (1 ≤ (sec l).length) && decide ((sec l).length ≤ 64)
def keyE (l : List Att) : Int := if check l = 0 then (if keyOk l = true then 0 else 52) else check l
def known (p : List UInt8) : Bool := decide (p = sChal) || decide (p = sMutual) || decide (p = sPlain)
def len (p : List UInt8) : Int := if p = sPlain then 2 else 3
def first (p : List UInt8) : Int := if p = sChal then 2 else 1
def even (n : Int) : Bool := decide (n.tmod 2 = 0)
def sends (p : List UInt8) (role n : Int) : Bool := even n == decide (role = first p)
def phase (c : Cnv) : Int := if c.step = len c.proto then 3 else if sends c.proto c.role c.step = true then 1 else 2
def put (s : List UInt8) : List UInt8 := Oct.ptS s
def carries (c : Cnv) (n : Int) : Int :=
  if (c.proto = sChal ∧ n = 0) ∨ (c.proto = sMutual ∧ n = 1) then 0 else if c.proto = sMutual ∧ n = 0 then ((put (user c.key)).length : Int) else -1
def mac (c : Cnv) (s : List UInt8) : List UInt8 := Sha.mac (sec c.key) s
def cl (c : Cnv) : List UInt8 := if c.role = 1 then c.own else c.peer
def sv (c : Cnv) : List UInt8 := if c.role = 1 then c.peer else c.own
def msgChal (c : Cnv) (n : Int) : List UInt8 := if n = 0 then sv c else if n = 1 then put (user c.key) ++ mac c (sv c) else sOk
def msgMutual (c : Cnv) (n : Int) : List UInt8 := if n = 0 then put (user c.key) ++ cl c else if n = 1 then sv c ++ mac c (sServer ++ cl c ++ sv c) else mac c (sClient ++ cl c ++ sv c)
def msgPlain (c : Cnv) (n : Int) : List UInt8 := if n = 0 then put (user c.key) ++ put (sec c.key) else sOk
def msg (c : Cnv) (n : Int) : List UInt8 := if c.proto = sChal then msgChal c n else if c.proto = sMutual then msgMutual c n else msgPlain c n
def settled (c : Cnv) : Cnv := { c with phase := phase c, user := if phase c = 3 then user c.key else [] }
def zero : Cnv := ⟨0, [], 0, 0, 0, [], [], [], [], 0⟩
def start (proto : List UInt8) (role : Int) (key : List Att) (nonce : List UInt8) : Cnv × Int :=
  if known proto = false then (zero, 53) else if (role ≠ 1 ∧ role ≠ 2) ∨ nonce.length ≠ 32 then (zero, 1) else if keyE key ≠ 0 then (zero, keyE key)
  else (settled ⟨0, proto, role, 0, 0, key, nonce, [], [], 0⟩, 0)
def knows (c : Cnv) : Bool := (List.range c.step.toNat).any fun n => decide (0 ≤ carries c n) && !sends c.proto c.role n
def failed (c : Cnv) : Bool := decide (c.phase = 4) && decide (phase c = 2)
def right (c : Cnv) : Bool :=
  decide (0 ≤ c.id ∧ c.id ≤ 1048575) && known c.proto && decide (c.role = 1 ∨ c.role = 2) && decide (keyE c.key = 0) && decide (c.own.length = 32) && decide (0 ≤ c.step ∧ c.step ≤ len c.proto)
  && (failed c || decide (c.phase = phase c)) && decide (c.user = (settled c).user) && (failed c == decide (c.err = 28)) && (failed c || decide (c.err = 0))
  && (if knows c = true then decide (c.peer.length = 32) else decide (c.peer = []))
def read (c : Cnv) : Cnv × List UInt8 × Int := if c.phase = 1 then (settled { c with step := c.step + 1 }, msg c c.step, 0) else (c, [], 53)
/-- The conversation with the nonce that a text carries. -/
def learn (c : Cnv) (s : List UInt8) : Cnv :=
  if 0 ≤ carries c c.step ∧ carries c c.step + 32 ≤ s.length then { c with peer := (s.drop (carries c c.step).toNat).take 32 } else c
def write (c : Cnv) (s : List UInt8) : Cnv × Int :=
  if c.phase = 2 then
    (if (0 ≤ carries c c.step ∧ (learn c s).peer.length ≠ 32) ∨ msg (learn c s) c.step ≠ s then ({ c with phase := 4, err := 28 }, 28) else (settled { learn c s with step := c.step + 1 }, 0))
  else (c, 53)
def done (c : Cnv) : List UInt8 × Bool := if c.phase = 3 then (c.user, true) else ([], false)
/-- k rounds of a talk. -/
def run : Nat → Int → Cnv → Cnv → Cnv × Cnv × Int
  | 0, n, a, b => (a, b, n)
  | k + 1, n, a, b =>
    if a.phase = 1 ∧ b.phase = 2 then run k (n + 1) (read a).1 (write b (read a).2.1).1
    else if b.phase = 1 ∧ a.phase = 2 then run k (n + 1) (write a (read b).2.1).1 (read b).1
    else (a, b, n)
end Au
end Go.Proofs.YtjjdaelddicokaaGreatDoor
