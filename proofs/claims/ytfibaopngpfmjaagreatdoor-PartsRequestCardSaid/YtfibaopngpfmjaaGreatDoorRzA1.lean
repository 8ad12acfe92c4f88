/- Lists of bytes, short laws of drawn regions, append. Conditions: those that each theorem names. -/
import Derived.Test.YtfibaopngpfmjaaGreatDoorProg
import Derived.WalkKit
import Derived.WalkLawsBesides
import Derived.WalkSpells
import Derived.Lib.Hide
import Derived.Deep.QuietTactic
import Derived.BigQuiet
import Derived.Laws.BitsAllLaws
import Derived.Laws.IdiomStrings
import Derived.Lib.Replace
import Derived.Lib.SplitLaws
import Derived.Lib.IndexBytes
import Derived.Lib.Repeat
import Derived.Deep.RegionHeldLaw
import Derived.Maps.AppendAt
import Derived.Laws.OwnMore
import Derived.OrdersHeld
import Derived.Laws.Tables
import Derived.RegionTactic
import Derived.StillTail
set_option linter.unusedVariables false
namespace Go.Proofs.YtfibaopngpfmjaaGreatDoor
theorem lh {p : Prop} (h : p) : Go.RowKit.Hid p := Lib.hid h
open Go.RowKit
/-- Bytes as the model's values. -/
def bys (l : List UInt8) : List Value := l.map fun b => Value.int .u8 (b.toNat : Int)
theorem bys_length (l : List UInt8) : (bys l).length = l.length := by simp [bys]
theorem bys_get (l : List UInt8) (j : Nat) (h : j < l.length) : (bys l)[j]? = some (.int .u8 (l[j].toNat : Int)) := by simp [bys, h]
theorem bys_append (a b : List UInt8) : bys (a ++ b) = bys a ++ bys b := by simp [bys]
theorem bys_oneCell (l : List UInt8) : ∀ u ∈ bys l, u.oneCell' = true := by
 intro u hu; simp only [bys, List.mem_map] at hu; obtain ⟨_, _, rfl⟩ := hu; rfl

/-- A text out of a list. -/
abbrev T (l : List UInt8) : ByteArray := ⟨l.toArray⟩
theorem T_size (l : List UInt8) : (T l).size = l.length := by show l.toArray.size = _; simp
theorem T_list (l : List UInt8) : (T l).data.toList = l := rfl
theorem T_of (s : ByteArray) : T s.data.toList = s := by cases s; rfl
theorem T_append (a b : List UInt8) : T a ++ T b = T (a ++ b) := ByteArray.mk_append_mk a b
theorem T_inj {a b : List UInt8} (h : T a = T b) : a = b := by have := congrArg (fun s : ByteArray => s.data.toList) h; simpa using this

theorem bcell {W w1 : World} (hb : Below W.heap.size W w1) : (∀ b o, b < W.heap.size → w1.cell? ⟨b, o, none⟩ = W.cell? ⟨b, o, none⟩) ∧ (∀ b o, b < W.heap.size → w1.frozen? ⟨b, o, none⟩ = W.frozen? ⟨b, o, none⟩) :=
 ⟨fun b o h => hb.cell (p := ⟨b, o, none⟩) h, fun b o h => hb.frozen (p := ⟨b, o, none⟩) h⟩

theorem bnext {w a b : World} (h : Below w.heap.size w a) (k : Below a.heap.size a b) : Below w.heap.size w b := h.trans (k.mono h.size)
/-- 'string(out)' of an owned row of bytes. -/
theorem conv_own {src dst e : TypeId} {w : World} {base : Nat} {v : Value} {l : List UInt8} (hs : Tryz.prog.underlying src = some (.slice e)) (he : Tryz.prog.underlying e = some (.int .u8)) (hd : Tryz.prog.underlying dst = some .string)
  (h : w.ownsRow base e 1 v l.length (bys l)) : (convert src dst v).run Tryz.prog w = .ok (.string (T l)) w := by
 rcases h.2 with ⟨rfl, h0⟩ | ⟨g, cap, cur, rfl, _, hg, hnc, _⟩
 ·have : l = [] := List.eq_nil_of_length_eq_zero h0
  subst this
  rw [run_convert_bytes_string w src dst e none 0 0 hs he hd]
  rfl
 ·refine run_convert_bytes_back w src dst e ⟨g, 0, none⟩ cap l hs he hd fun j hj => ?_
  exact h.cells (g := g) rfl j _ (bys_get l j hj)

theorem i64s (n : Int) (h : (Lit.int .i64 n).wf = true) : -9223372036854775808 ≤ n ∧ n ≤ 9223372036854775807 := by
 simp [Lit.wf, IntKind.min, IntKind.max, IntKind.bits, IntKind.signed] at h; omega

/-- 'append' within the capacity of an owned row, as one step of a region that draws its order. -/
theorem step_append_fits {P : Program} {ops : Array Oper} {o : Oper} {a : Act} {w : World} {K : Act → World → Prop} {Q : Exit → Act → World → Prop} {E : Prop}
  (hg : o.guard = none) (s x : Operand) (t : TypeId) (hop : o.op = Op.call { callee := Callee.builtin Builtin.append, args := #[s, x], argTypes := #[t, t] })
  (base : Nat) (e : TypeId) (i : TypeInfo) (size : Nat) (h1 : P.underlying t = some (.slice e)) (h2 : P.info? e = some i) (h4 : i.size = size)
  (g k cap : Nat) (xs : List Value) (hs : a.eval s = .slice (some ⟨g, 0, none⟩) k cap) (hown : w.ownsRow base e size (.slice (some ⟨g, 0, none⟩) k cap) k xs) (ad : Addr) (m c : Nat) (news : List Value) (hx : a.eval x = .slice (some ad) m c) (hn : news.length = m * size)
  (hc : ∀ j u, news[j]? = some u → w.cell? (ad.add j) = some u) (h1c : ∀ u ∈ news, u.oneCell' = true) (b1 : k + m ≤ cap)
  (hK : ∀ w', w'.ownsRow base e size (.slice (some ⟨g, 0, none⟩) (k + m) cap) (k + m) (xs ++ news) → w.grownBy w' (some g) → K (a.put o.dst (.slice (some ⟨g, 0, none⟩) (k + m) cap)) w') :
  if Region.wanted o (yielded ops a.tmps) = true then Oper.wp P o a w K Q else E := by
 have hw : Region.wanted o (yielded ops a.tmps) = true := by simp [Region.wanted, hg]
 rw [if_pos hw]
 obtain ⟨w', hrun, r1, r2⟩ := run_append_fits (P := P) w base t o.type e i size h1 h2 h4 g k cap xs hown ad m c news hn hc h1c b1
 unfold Oper.wp
 simp [execOp, hop, resolve, invoke, builtin, hs, hx, hrun, Result.andThen]
 exact hK w' r1 r2
end Go.Proofs.YtfibaopngpfmjaaGreatDoor
namespace Go.Proofs.YtfibaopngpfmjaaGreatDoor
namespace Lx
/-- The bytes that end a word. -/
def specials : List UInt8 := [32, 9, 10, 59, 38, 124, 40, 41, 123, 125, 60, 62, 61, 94, 96, 36, 39]
def escapes : List UInt8 := [92, 42, 63, 91]
def leading : List UInt8 := [35, 33, 64]
def special (c : UInt8) : Bool := specials.contains c
def bad (c : UInt8) : Bool := (specials ++ escapes).contains c
/-- A text that needs no quotes. -/
def plain : List UInt8 → Bool
 | [] => false
 | c :: s => !leading.contains c && (c :: s).all fun x => !bad x
/-- Each quote twice. -/
def esc : List UInt8 → List UInt8
 | [] => []
 | c :: s => if c = 39 then 39 :: 39 :: esc s else c :: esc s
def quote (s : List UInt8) : List UInt8 := if plain s then s else 39 :: (esc s ++ [39])
/-- The mark of each byte. -/
def marks (s : List UInt8) : List UInt8 := List.replicate s.length (if plain s then 48 else 49)
theorem esc_none : ∀ (s : List UInt8), 39 ∉ s → esc s = s
 | [], _ => rfl
 | c :: s, h => by
  have h1 : ¬ c = 39 := fun e => h (by rw [e]; exact List.mem_cons_self ..)
  rw [esc, if_neg h1, esc_none s (fun e => h (List.mem_cons_of_mem _ e))]
theorem esc_cut : ∀ (a b : List UInt8), 39 ∉ a → esc (a ++ 39 :: b) = a ++ 39 :: 39 :: esc b
 | [], b, _ => by rw [List.nil_append, esc, if_pos rfl]; rfl
 | c :: a, b, h => by
  have h1 : ¬ c = 39 := fun e => h (by rw [e]; exact List.mem_cons_self ..)
  rw [List.cons_append, esc, if_neg h1, esc_cut a b (fun e => h (List.mem_cons_of_mem _ e))]
  rfl
/-- Up to the first quote. -/
theorem first_quote : ∀ (s : List UInt8), 39 ∉ s ∨ ∃ a b, s = a ++ 39 :: b ∧ 39 ∉ a
 | [] => .inl (by simp)
 | c :: s => by
  by_cases h : c = 39
  ·exact .inr ⟨[], s, by rw [h]; rfl, by simp⟩
  ·rcases first_quote s with h2 | ⟨a, b, rfl, h2⟩
   ·exact .inl (by simp only [List.mem_cons, not_or]; exact ⟨fun e => h e.symm, h2⟩)
   ·exact .inr ⟨c :: a, b, rfl, by simp only [List.mem_cons, not_or]; exact ⟨fun e => h e.symm, h2⟩⟩
theorem esc_le : ∀ (s : List UInt8), (esc s).length ≤ 2 * s.length
 | [] => by simp [esc]
 | c :: s => by
  have := esc_le s
  rw [esc]
  split <;> simp <;> omega
theorem quote_le (s : List UInt8) : (quote s).length ≤ 2 * s.length + 2 := by
 unfold quote
 split
 ·omega
 ·have := esc_le s
  simp; omega
theorem index_quote (a t : List UInt8) (h : 39 ∉ a) : Go.Lib.indexByte (a ++ 39 :: t) 39 = (a.length : Int) := by
 induction a with
 | nil => rfl
 | cons c a ih =>
  have h1 : ¬ c = 39 := fun e => h (by rw [e]; exact List.mem_cons_self ..)
  have h2 := ih (fun e => h (List.mem_cons_of_mem _ e))
  rw [List.cons_append, Go.Lib.indexByte, h2]
  have e1 : (c == 39) = false := by simpa using h1
  rw [e1, if_neg (by decide), if_neg (show ¬ (((a.length : Int) == -1) = true) from by simp)]
  simp
theorem index_none (a : List UInt8) (c : UInt8) (h : c ∉ a) : Go.Lib.indexByte a c = -1 := by
 induction a with
 | nil => rfl
 | cons x a ih =>
  have h1 : ¬ x = c := fun e => h (by rw [e]; exact List.mem_cons_self ..)
  have h2 := ih (fun e => h (List.mem_cons_of_mem _ e))
  rw [Go.Lib.indexByte, h2]
  have e1 : (x == c) = false := by simpa using h1
  rw [e1]; rfl
theorem index_lt (a : List UInt8) (c : UInt8) : decide (Go.Lib.indexByte a c < 0) = !a.contains c := by
 by_cases h : c ∈ a
 ·have h1 : ¬ Go.Lib.indexByte a c < 0 := by
   induction a with
   | nil => cases h
   | cons x a ih =>
    rw [Go.Lib.indexByte]
    split
    ·decide
    ·rename_i hx
     have hx2 : ¬ x = c := by simpa using hx
     have h2 : c ∈ a := by
      rcases List.mem_cons.1 h with e | e
      ·exact absurd e.symm hx2
      ·exact e
     have := ih h2
     have h3 : ¬ Go.Lib.indexByte a c = -1 := by omega
     rw [if_neg (by simpa using h3)]
     omega
  rw [decide_eq_false h1]
  simp [h]
 ·rw [index_none a c h]
  simp [h]
/-- What strings.ReplaceAll makes of it. -/
theorem replace_quote (s : List UInt8) : Go.Lib.replaceAll s [39] [39, 39] = esc s := by
 unfold Go.Lib.replaceAll Go.Lib.replace
 rw [if_neg (by decide)]
 have hn : Go.Lib.replaceNum s [39] (-1) = s.count 39 := by
  unfold Go.Lib.replaceNum
  rw [if_pos (.inl (by decide)), Go.Lib.count_one]
 rw [hn]
 obtain ⟨n, hl⟩ : ∃ n, s.length = n := ⟨_, rfl⟩
 clear hn
 induction n using Nat.strongRecOn generalizing s with
 | _ n ih =>
  rcases first_quote s with h | ⟨a, b, rfl, h⟩
  ·rw [List.count_eq_zero.2 h, esc_none s h]; rfl
  ·have hc : (a ++ 39 :: b).count 39 = b.count 39 + 1 := by
    rw [List.count_append, List.count_eq_zero.2 h, List.count_cons_self]; omega
   have hi : Go.Lib.index (a ++ 39 :: b) [39] = (a.length : Int) := by rw [Go.Lib.index_one]; exact index_quote a b h
   rw [hc, Go.Lib.replaceK_hit _ _ _ _ _ hi, esc_cut a b h, List.take_left]
   have hd : (a ++ 39 :: b).drop (a.length + ([39] : List UInt8).length) = b := by
    rw [← List.drop_drop, List.drop_left]; rfl
   rw [hd]
   have := ih b.length (by rw [← hl]; simp; omega) b rfl
   rw [this]
   simp
end Lx
end Go.Proofs.YtfibaopngpfmjaaGreatDoor
namespace Go.Proofs.YtfibaopngpfmjaaGreatDoor.Oct
/-- The k lowest bytes of n, the least significant first. -/
def le : Nat → Nat → List UInt8
 | 0, _ => []
 | k + 1, n => UInt8.ofNat n :: le k (n / 256)

/-- The number that bytes, the least significant first, stand for. -/
def leVal : List UInt8 → Nat
 | [] => 0
 | x :: r => x.toNat + 256 * leVal r

theorem le_length (k n : Nat) : (le k n).length = k := by
 induction k generalizing n with
 | zero => rfl
 | succ k ih => simp [le, ih]

theorem leVal_lt (l : List UInt8) : leVal l < 256 ^ l.length := by
 induction l with
 | nil => simp [leVal]
 | cons x r ih =>
  have := x.toNat_lt
  simp only [leVal, List.length_cons, Nat.pow_succ]
  omega

theorem leVal_le (k n : Nat) : leVal (le k n) = n % 256 ^ k := by
 induction k generalizing n with
 | zero => simp [le, leVal, Nat.mod_one]
 | succ k ih =>
  simp only [le, leVal, ih]
  have h1 : (UInt8.ofNat n).toNat = n % 256 := by simp
  rw [h1, Nat.pow_succ, Nat.mul_comm (256 ^ k) 256, Nat.mod_mul]

theorem le_leVal (l : List UInt8) : le l.length (leVal l) = l := by
 induction l with
 | nil => rfl
 | cons x r ih =>
  have hx := x.toNat_lt
  simp only [List.length_cons, le, leVal]
  have e1 : UInt8.ofNat (x.toNat + 256 * leVal r) = x := by
   apply UInt8.toNat_inj.1
   simp
  have e2 : (x.toNat + 256 * leVal r) / 256 = leVal r := by omega
  rw [e1, e2, ih]

theorem le_snoc (k n : Nat) : le (k + 1) n = le k n ++ [UInt8.ofNat (n / 256 ^ k)] := by
 induction k generalizing n with
 | zero => simp [le]
 | succ k ih =>
  rw [le, ih, le]
  simp only [List.cons_append, Nat.div_div_eq_div_mul, Nat.pow_succ, Nat.mul_comm]

theorem leVal_append (a b : List UInt8) : leVal (a ++ b) = leVal a + 256 ^ a.length * leVal b := by
 induction a with
 | nil => simp [leVal]
 | cons x r ih =>
  simp only [List.cons_append, leVal, ih, List.length_cons, Nat.pow_succ]
  rw [Nat.mul_add, ← Nat.mul_assoc, Nat.mul_comm 256 (256 ^ r.length)]
  omega

/-! ## Put -/
def putE (n w : Int) : Int := if w < 1 ∨ 8 < w then 1 else if n < 0 ∨ (256 : Int) ^ w.toNat ≤ n then 5 else 0
def putS (n w : Int) : List UInt8 := if putE n w = 0 then le w.toNat n.toNat else []

/-! ## Get -/
def part (s : List UInt8) (at_ w : Int) : List UInt8 := (s.drop at_.toNat).take w.toNat
def getE (s : List UInt8) (at_ w : Int) : Int :=
 if w < 1 ∨ 8 < w ∨ at_ < 0 ∨ (s.length : Int) < at_ then 1 else if (s.length : Int) - at_ < w then 3
 else if 9223372036854775808 ≤ leVal (part s at_ w) then 5 else 0
def getN (s : List UInt8) (at_ w : Int) : Int := if getE s at_ w = 0 then (leVal (part s at_ w) : Int) else 0
def getT (s : List UInt8) (at_ w : Int) : Int := if getE s at_ w = 0 then at_ + w else 0

/-! ## PutText, GetText -/
def ptE (s : List UInt8) : Int := if 65535 < s.length then 4 else 0
def ptS (s : List UInt8) : List UInt8 := if 65535 < s.length then [] else le 2 s.length ++ s
def gtE (s : List UInt8) (at_ : Int) : Int :=
 if getE s at_ 2 ≠ 0 then getE s at_ 2 else if (s.length : Int) - getT s at_ 2 < getN s at_ 2 then 3 else 0
def gtS (s : List UInt8) (at_ : Int) : List UInt8 := if gtE s at_ = 0 then (s.drop (getT s at_ 2).toNat).take (getN s at_ 2).toNat else []
def gtT (s : List UInt8) (at_ : Int) : Int := if gtE s at_ = 0 then getT s at_ 2 + getN s at_ 2 else 0

/-! ## Hex, Unhex -/
def dig (n : Nat) : UInt8 := if n < 10 then UInt8.ofNat (48 + n) else UInt8.ofNat (87 + n)
def val (c : UInt8) : Int := if 48 ≤ c.toNat ∧ c.toNat ≤ 57 then c.toNat - 48 else if 97 ≤ c.toNat ∧ c.toNat ≤ 102 then c.toNat - 87 else -1
def hex : List UInt8 → List UInt8
 | [] => []
 | c :: r => dig (c.toNat / 16) :: dig (c.toNat % 16) :: hex r
/-- none: a byte that is no digit, or an odd number of bytes. -/
def unhex : List UInt8 → Option (List UInt8)
 | [] => some []
 | [_] => none
 | a :: b :: r => if val a < 0 ∨ val b < 0 then none else (unhex r).map (UInt8.ofNat (val a * 16 + val b).toNat :: ·)

theorem val_dig (n : Nat) (h : n < 16) : val (dig n) = n := by
 unfold dig val
 split <;> simp <;> omega

theorem dig_val (c : UInt8) (h : ¬ val c < 0) : dig (val c).toNat = c := by
 have hc := c.toNat_lt
 unfold val at h ⊢
 unfold dig
 apply UInt8.toNat_inj.1
 split <;> rename_i h1
 ·rw [if_pos (by omega)]; simp; omega
 ·split <;> rename_i h2
  ·rw [if_neg (by omega)]; simp; omega
  ·rw [if_neg h1, if_neg h2] at h; omega

theorem val_lt (c : UInt8) : -1 ≤ val c ∧ val c < 16 := by
 unfold val; split <;> (try split) <;> omega

theorem hex_length (l : List UInt8) : (hex l).length = 2 * l.length := by
 induction l with
 | nil => rfl
 | cons c r ih => simp [hex, ih]; omega

theorem hex_append (a b : List UInt8) : hex (a ++ b) = hex a ++ hex b := by
 induction a with
 | nil => rfl
 | cons c r ih => simp [hex, ih]

theorem unhex_hex (l : List UInt8) : unhex (hex l) = some l := by
 induction l with
 | nil => rfl
 | cons c r ih =>
  have hc := c.toNat_lt
  rw [hex, unhex, val_dig _ (by omega), val_dig _ (by omega), ih, if_neg (by omega)]
  simp only [Option.map_some, Option.some.injEq, List.cons.injEq, and_true]
  apply UInt8.toNat_inj.1
  simp
  omega

theorem hex_unhex (n : Nat) : ∀ (l r : List UInt8), l.length ≤ n → unhex l = some r → hex r = l := by
 induction n with
 | zero =>
  intro l r hl h
  have : l = [] := List.eq_nil_of_length_eq_zero (by omega)
  subst this
  simp [unhex] at h
  subst h; rfl
 | succ n ih =>
  intro l r hl h
  match l, h with
  | [], h => simp [unhex] at h; subst h; rfl
  | [_], h => simp [unhex] at h
  | a :: b :: t, h =>
   rw [unhex] at h
   split at h
   ·cases h
   ·rename_i hv
    obtain ⟨q, hq, rfl⟩ := Option.map_eq_some_iff.1 h
    have e := ih t q (by simp at hl; omega) hq
    have ha := val_lt a
    have hb := val_lt b
    have hva : ¬ val a < 0 := fun h => hv (.inl h)
    have hvb : ¬ val b < 0 := fun h => hv (.inr h)
    have e1 : (UInt8.ofNat (val a * 16 + val b).toNat).toNat = (val a * 16 + val b).toNat := by
     simp; omega
    rw [hex, e, e1]
    have e2 : (val a * 16 + val b).toNat / 16 = (val a).toNat := by omega
    have e3 : (val a * 16 + val b).toNat % 16 = (val b).toNat := by omega
    rw [e2, e3, dig_val a hva, dig_val b hvb]

theorem unhex_length (l r : List UInt8) (h : unhex l = some r) : l.length = 2 * r.length := by
 have := hex_unhex l.length l r (Nat.le_refl _) h
 rw [← this, hex_length]

theorem unhex_odd (l : List UInt8) (h : l.length % 2 = 1) : unhex l = none := by
 cases hu : unhex l with
 | none => rfl
 | some r => have := unhex_length l r hu; omega
end Go.Proofs.YtfibaopngpfmjaaGreatDoor.Oct
namespace Go.Proofs.YtfibaopngpfmjaaGreatDoor
open Go.RowKit
/-- Not wanted here. -/
def offAt (ops : Array Oper) (tmps : Array Value) (i : Nat) : Bool :=
 match ops[i]? with
 | some o => !Region.wanted o (yielded ops tmps)
 | none => false
def skipAct : List (Nat × Nat) → Act → Act
 | [], a => a
 | (_, d) :: l, a => skipAct l (a.put (some d) undef)
def skipListed : List (Nat × Nat) → Array Bool → Array Bool
 | [], b => b
 | (i, _) :: l, b => skipListed l (b.setIfInBounds i true)
def skipOk (md : Region.Mode) (ops : Array Oper) : List (Nat × Nat) → Array Bool → Array Value → Bool
 | [], _, _ => true
 | (i, d) :: l, b, t => Region.free md ops b i && (Region.ready md ops b).contains i && offAt ops t i && ((ops[i]?).bind (·.dst) == some d) && skipOk md ops l (b.setIfInBounds i true) (t.setIfInBounds d undef)
section
variable {P : Program} {ops : Array Oper} {Q : Exit → Act → World → Prop} {md : Region.Mode} {S : World → Prop}
theorem wpAnyH_skips (hs : Region.noSelect ops = true) (hQ : ∀ d c a w, Q (.panic c) (a.put (some d) undef) w → Q (.panic c) a w) {w : World} (hS : S w) :
  ∀ (l : List (Nat × Nat)) (fuel n : Nat) (b : Array Bool) (a : Act), n = fuel + l.length → skipOk md ops l b a.tmps = true → wpAnyH P md ops Q S fuel (skipListed l b) (skipAct l a) w → wpAnyH P md ops Q S n b a w
 | [], _, _, _, _, e, _, h => by subst e; exact h
 | (i, d) :: l, fuel, n, b, a, e, hk, h => by
  subst e
  unfold skipOk at hk
  rw [Bool.and_eq_true, Bool.and_eq_true, Bool.and_eq_true, Bool.and_eq_true] at hk
  obtain ⟨⟨⟨⟨h1, h2⟩, h3⟩, h5⟩, h4⟩ := hk
  unfold offAt at h3
  cases ho : ops[i]? with
  | none => rw [ho] at h3; cases h3
  | some o =>
   rw [ho] at h3 h5
   have hd : o.dst = some d := by simpa using h5
   unfold skipAct skipListed at h
   refine wpAnyH_take (fuel := fuel + l.length) (i := i) (oi := o) (v := undef) ho hs h1 h2 (fun c a w => by rw [hd]; exact hQ d c a w) (.inr ⟨by simpa using h3, rfl⟩) hS (wpAnyH_skips hs hQ hS l fuel _ _ _ rfl ?_ ?_)
   ·rw [hd]; exact h4
   ·rw [hd]; exact h
/-- 'wpAnyH_take', the slot that is written named: so that the frame can be laid out anew. -/
theorem wpAnyH_takeD {i d : Nat} {oi : Oper} {v : Value} {fuel : Nat} {listed : Array Bool} {a : Act} {w : World} (hi : ops[i]? = some oi) (hd : oi.dst = some d)
  (hs : Region.noSelect ops = true) (hf : Region.free md ops listed i = true) (hr : (Region.ready md ops listed).contains i = true)
  (hQ : ∀ c a w, Q (.panic c) (a.put (some d) v) w → Q (.panic c) a w) (hy : YieldsIf P ops S oi v a) (hS : S w)
  (h : wpAnyH P md ops Q S fuel (listed.setIfInBounds i true) (a.put (some d) v) w) : wpAnyH P md ops Q S (fuel + 1) listed a w :=
 wpAnyH_take hi hs hf hr (by rw [hd]; exact hQ) hy hS (by rw [hd]; exact h)
theorem px1 {α : Type} (l : List α) (i : Nat) (a : α) : l.toArray.setIfInBounds i a = (l.set i a).toArray := by simp
theorem px2 {α : Type} (x : α) (l : List α) (a : α) : (x :: l).set 0 a = a :: l := rfl
theorem px3 {α : Type} (x : α) (l : List α) (n : Nat) (a : α) : (x :: l).set (n + 1) a = x :: l.set n a := rfl
/-- The same, the side conditions and the value paid by the walk itself, the frame laid out anew. -/
theorem tk (i d : Nat) {oi : Oper} {v : Value} {fuel : Nat} {listed : Array Bool} {a a' : Act} {w : World} (h : wpAnyH P md ops Q S fuel (listed.setIfInBounds i true) a' w)
  (hi : ops[i]? = some oi := by rfl) (hd : oi.dst = some d := by rfl) (hs : Region.noSelect ops = true := by kernel_rfl) (hf : Region.free md ops listed i = true := by kernel_rfl) (hr : (Region.ready md ops listed).contains i = true := by kernel_rfl)
  (hw : Region.wanted oi (yielded ops a.tmps) = true := by rfl) (hy : ∀ w, S w → (execOp a.eval oi).run P w = .ok (.value v) w := by (intro w hSw; (try dsimp only at hSw); go_simp <;> with_reducible rfl))
  (ha : a.put (some d) v = a' := by (first | (simp only [Act.put, List.setIfInBounds_toArray, List.set_cons_zero, List.set_cons_succ]; rfl) | rfl))
  (hQ : ∀ c a w, Q (.panic c) (a.put (some d) v) w → Q (.panic c) a w := by exact fun _ _ _ h => h) (hS : S w := by assumption) : wpAnyH P md ops Q S (fuel + 1) listed a w :=
 wpAnyH_takeD hi hd hs hf hr hQ (Or.inl ⟨hw, hy⟩) hS (by rw [ha]; exact h)
theorem tk2 (i d : Nat) {oi : Oper} {v : Value} {fuel : Nat} {listed : Array Bool} {a a' : Act} {w : World} (h : wpAnyH P md ops Q S fuel (listed.setIfInBounds i true) a' w)
  (hi : ops[i]? = some oi := by rfl) (hd : oi.dst = some d := by rfl) (hs : Region.noSelect ops = true := by kernel_rfl) (hf : Region.free md ops listed i = true := by kernel_rfl) (hr : (Region.ready md ops listed).contains i = true := by kernel_rfl)
  (hw : Region.wanted oi (yielded ops a.tmps) = true := by rfl) (hy : ∀ w, S w → (execOp a.eval oi).run P w = .ok (.value v) w := by (intro w hSw; obtain ⟨⟨hSw0, hSw1⟩, _⟩ := hSw; go_simp <;> with_reducible rfl))
  (ha : a.put (some d) v = a' := by (first | (simp only [Act.put, List.setIfInBounds_toArray, List.set_cons_zero, List.set_cons_succ]; rfl) | rfl))
  (hQ : ∀ c a w, Q (.panic c) (a.put (some d) v) w → Q (.panic c) a w := by exact fun _ _ _ h => h) (hS : S w := by assumption) : wpAnyH P md ops Q S (fuel + 1) listed a w :=
 wpAnyH_takeD hi hd hs hf hr hQ (Or.inl ⟨hw, hy⟩) hS (by rw [ha]; exact h)
theorem tkY (i d : Nat) {oi : Oper} {v : Value} {fuel : Nat} {listed : Array Bool} {a a' : Act} {w : World} (hi : ops[i]? = some oi) (hy : YieldsIf P ops S oi v a) (h : wpAnyH P md ops Q S fuel (listed.setIfInBounds i true) a' w)
  (hd : oi.dst = some d := by rfl) (hs : Region.noSelect ops = true := by kernel_rfl) (hf : Region.free md ops listed i = true := by kernel_rfl) (hr : (Region.ready md ops listed).contains i = true := by kernel_rfl)
  (ha : a.put (some d) v = a' := by (first | (simp only [Act.put, List.setIfInBounds_toArray, List.set_cons_zero, List.set_cons_succ]; rfl) | rfl))
  (hQ : ∀ c a w, Q (.panic c) (a.put (some d) v) w → Q (.panic c) a w := by exact fun _ _ _ h => h) (hS : S w := by assumption) : wpAnyH P md ops Q S (fuel + 1) listed a w :=
 wpAnyH_takeD hi hd hs hf hr hQ hy hS (by rw [ha]; exact h)
theorem tkU (i d : Nat) {oi : Oper} {fuel : Nat} {listed : Array Bool} {a a' : Act} {w : World} (h : wpAnyH P md ops Q S fuel (listed.setIfInBounds i true) a' w)
  (hi : ops[i]? = some oi := by rfl) (hd : oi.dst = some d := by rfl) (hs : Region.noSelect ops = true := by kernel_rfl) (hf : Region.free md ops listed i = true := by kernel_rfl) (hr : (Region.ready md ops listed).contains i = true := by kernel_rfl)
  (hw : Region.wanted oi (yielded ops a.tmps) = false := by rfl)
  (ha : a.put (some d) undef = a' := by (first | (simp only [Act.put, List.setIfInBounds_toArray, List.set_cons_zero, List.set_cons_succ]; rfl) | rfl))
  (hQ : ∀ c a w, Q (.panic c) (a.put (some d) undef) w → Q (.panic c) a w := by exact fun _ _ _ h => h) (hS : S w := by assumption) : wpAnyH P md ops Q S (fuel + 1) listed a w :=
 wpAnyH_takeD hi hd hs hf hr hQ (Or.inr ⟨hw, rfl⟩) hS (by rw [ha]; exact h)
/-- The one operation that may come up now comes up. -/
theorem rdy (i : Nat) {o : Oper} {fuel : Nat} {listed : Array Bool} {a : Act} {w : World}
  (h : ∀ K' : Act → World → Prop, Shut (∀ a w, S w → (S w → wpAnyH P md ops Q S fuel (listed.setIfInBounds i true) a w) → K' a w) → if Region.wanted o (yielded ops a.tmps) = true then Oper.wp P o a w K' Q else K' (a.put o.dst undef) w)
  (ho : ops[i]? = some o := by rfl) (hr : Region.ready md ops listed = [i] := by kernel_rfl) : wpAnyH P md ops Q S (fuel + 1) listed a w :=
 wpAnyH_ready hr (by simp) (AllReadyH.cons ho h AllReadyH.nil)
end
section
variable {P : Program} (w : World)
theorem run_append_any (base : Nat) (t ty e : TypeId) (i : TypeInfo) (z : Value) (size bytes : Nat) (ht : P.underlying t = some (.slice e)) (hi : P.info? e = some i) (hz : i.zero = some z)
  (hsize : i.size = size) (hby : i.bytes = bytes) (hzs : z.cells.size = size) (hsz : 0 < size)
  (v : Value) (n : Nat) (xs : List Value) (hown : w.ownsRow base e size v n xs)
  (ao : Option Addr) (m c : Nat) (news : List Value) (hnone : ao = none → m = 0 ∧ c = 0) (hl : news.length = m * size) (hnews : ∀ a, ao = some a → ∀ j u, news[j]? = some u → w.cell? (a.add j) = some u) (h1 : ∀ u ∈ news, u.oneCell' = true)
  (h63 : n + m ≤ maxLen) (hbytes : (n + m) * bytes ≤ 140737488355328) (hbase : base ≤ w.heap.size) :
  ∃ v' w', (Builtin.append_ #[t, t] ty #[v, .slice ao m c]).run P w = .ok v' w' ∧ w'.ownsRow base e size v' (n + m) (xs ++ news) ∧ w.grownBy w' v.ownBlock ∧ (v'.ownBlock = v.ownBlock ∨ v'.ownBlock = some w.heap.size) := by
 cases ao with
 | none =>
  obtain ⟨rfl, rfl⟩ := hnone rfl
  have hn : news = [] := List.eq_nil_of_length_eq_zero (by simpa using hl)
  subst hn
  exact ⟨v, w, run_append_owned_none w base t ty e i size ht hi v n xs hown, by simpa using hown, ⟨rfl, rfl, rfl, Nat.le_refl _, fun _ _ _ => rfl⟩, .inl rfl⟩
 | some a =>
  obtain ⟨v', w', h1', h2, h3, _, h5⟩ := run_append_own_at (P := P) w base t ty e i z size bytes ht hi hz hsize hby hzs hsz v n xs hown a m c news hl (hnews a rfl) h1 h63 hbytes hbase
  exact ⟨v', w', h1', h2, h3, h5⟩
theorem wpList_append_any {ops : Array Oper} {rest : List Oper} {o : Oper} {a : Act} {Q : Exit → Act → World → Prop} (hgd : o.guard = none) (s x : Operand) (t : TypeId)
  (ho : o.op = .call { callee := .builtin .append, args := #[s, x], argTypes := #[t, t] })
  (base : Nat) (e : TypeId) (i : TypeInfo) (z : Value) (size bytes : Nat) (ht : P.underlying t = some (.slice e)) (hi : P.info? e = some i) (hz : i.zero = some z)
  (hsize : i.size = size) (hby : i.bytes = bytes) (hzs : z.cells.size = size) (hsz : 0 < size)
  (v : Value) (n : Nat) (xs : List Value) (hs : a.eval s = v) (hown : w.ownsRow base e size v n xs)
  (ao : Option Addr) (m c : Nat) (news : List Value) (hx : a.eval x = .slice ao m c) (hnone : ao = none → m = 0 ∧ c = 0) (hl : news.length = m * size) (hnews : ∀ ad, ao = some ad → ∀ j u, news[j]? = some u → w.cell? (ad.add j) = some u) (h1 : ∀ u ∈ news, u.oneCell' = true)
  (h63 : n + m ≤ maxLen) (hbytes : (n + m) * bytes ≤ 140737488355328) (hbase : base ≤ w.heap.size)
  (h : ∀ v' w', w'.ownsRow base e size v' (n + m) (xs ++ news) → w.grownBy w' v.ownBlock → (v'.ownBlock = v.ownBlock ∨ v'.ownBlock = some w.heap.size) → wpList P ops Q rest (a.put o.dst v') w') : wpList P ops Q (o :: rest) a w := by
 refine wpList_plain hgd fun K hK => ?_
 obtain ⟨v', w', hr, h2, h3, h4⟩ := run_append_any (P := P) w base t o.type e i z size bytes ht hi hz hsize hby hzs hsz v n xs hown ao m c news hnone hl hnews h1 h63 hbytes hbase
 unfold Oper.wp execOp
 simp only [ho, resolve, invoke, builtin, Sem.run_bind, Sem.run_pure, Result.andThen_ok, List.map_toArray, List.map_cons, List.map_nil, hs, hx, hr]
 exact hK _ _ (h v' w' h2 h3 h4)
/-- The same, as one step of a region that draws its order. -/
theorem step_append_any {ops : Array Oper} {o : Oper} {a : Act} {w : World} {K : Act → World → Prop} {Q : Exit → Act → World → Prop} {E : Prop} (hgd : o.guard = none) (s x : Operand) (t : TypeId)
  (ho : o.op = .call { callee := .builtin .append, args := #[s, x], argTypes := #[t, t] })
  (base : Nat) (e : TypeId) (i : TypeInfo) (z : Value) (size bytes : Nat) (ht : P.underlying t = some (.slice e)) (hi : P.info? e = some i) (hz : i.zero = some z)
  (hsize : i.size = size) (hby : i.bytes = bytes) (hzs : z.cells.size = size) (hsz : 0 < size)
  (v : Value) (n : Nat) (xs : List Value) (hs : a.eval s = v) (hown : w.ownsRow base e size v n xs)
  (ao : Option Addr) (m c : Nat) (news : List Value) (hx : a.eval x = .slice ao m c) (hnone : ao = none → m = 0 ∧ c = 0) (hl : news.length = m * size) (hnews : ∀ ad, ao = some ad → ∀ j u, news[j]? = some u → w.cell? (ad.add j) = some u) (h1 : ∀ u ∈ news, u.oneCell' = true)
  (h63 : n + m ≤ maxLen) (hbytes : (n + m) * bytes ≤ 140737488355328) (hbase : base ≤ w.heap.size)
  (hK : ∀ v' w', w'.ownsRow base e size v' (n + m) (xs ++ news) → w.grownBy w' v.ownBlock → (v'.ownBlock = v.ownBlock ∨ v'.ownBlock = some w.heap.size) → K (a.put o.dst v') w') :
  if Region.wanted o (yielded ops a.tmps) = true then Oper.wp P o a w K Q else E := by
 have hw : Region.wanted o (yielded ops a.tmps) = true := by simp [Region.wanted, hgd]
 rw [if_pos hw]
 obtain ⟨v', w', hr, h2, h3, h4⟩ := run_append_any (P := P) w base t o.type e i z size bytes ht hi hz hsize hby hzs hsz v n xs hown ao m c news hnone hl hnews h1 h63 hbytes hbase
 unfold Oper.wp execOp
 simp only [ho, resolve, invoke, builtin, Sem.run_bind, Sem.run_pure, Result.andThen_ok, List.map_toArray, List.map_cons, List.map_nil, hs, hx, hr]
 exact hK _ _ h2 h3 h4
end
section
variable {P : Program} {ops : Array Oper} {Q : Exit → Act → World → Prop} {md : Region.Mode} {S : World → Prop}
/-- In every world that meets S the operation is a call that returns v and leaves the world. -/
def QuietIf (P : Program) (ops : Array Oper) (S : World → Prop) (o : Oper) (v : Value) (a : Act) : Prop :=
 Region.wanted o (yielded ops a.tmps) = true ∧ ∃ f args, (∀ w, (execOp a.eval o).run P w = .ok (.enter f args) w) ∧ ∀ w, S w → Calls P f args w (fun e w' => e = .returned v ∧ w' = w)
theorem QuietIf.of_same {o : Oper} {v : Value} {a a' : Act} (hy : QuietIf P ops S o v a) (he : execOp a'.eval o = execOp a.eval o)
  (hw : Region.wanted o (yielded ops a'.tmps) = Region.wanted o (yielded ops a.tmps)) : QuietIf P ops S o v a' := by
 unfold QuietIf at *
 rw [he, hw]
 exact hy
theorem QuietIf.wpOp {i : Nat} {o : Oper} {v : Value} {a : Act} (hi : ops[i]? = some o) (hy : QuietIf P ops S o v a)
  {K : Act → World → Prop} {w : World} (hS : S w) (h : K (a.put o.dst v) w) : wpOp P ops Q i K a w := by
 unfold Go.wpOp
 simp only [hi]
 obtain ⟨hw, f, args, hr, hc⟩ := hy
 simp only [hw, if_true, Oper.wp, hr w, Oper.upon]
 refine .inl ((hc w hS).mono ?_)
 rintro e w' ⟨rfl, rfl⟩
 exact h
theorem wpOp_putQ {j : Nat} {oi oj : Oper} {v : Value} (hj : ops[j]? = some oj) (hap : oi.apart ops oj = true)
  (hsi : ∀ cs b, oi.op ≠ .select cs b) (hsj : ∀ cs b, oj.op ≠ .select cs b)
  (hQ : ∀ c a w, Q (.panic c) (a.put oi.dst v) w → Q (.panic c) a w) {K : Act → World → Prop} {a : Act} {w : World}
  (hy : QuietIf P ops S oi v a) (h : Go.wpOp P ops Q j K (a.put oi.dst v) w) :
  Go.wpOp P ops Q j (fun a' w' => QuietIf P ops S oi v a' ∧ K (a'.put oi.dst v) w') a w := by
 obtain ⟨h1, h2, h3⟩ := Oper.apart_spec hap
 have keep : ∀ (a : Act), QuietIf P ops S oi v a → ∀ u, QuietIf P ops S oi v (a.put oj.dst u) := fun a hy u =>
  hy.of_same (execOp_put oi hsi a oj.dst u h3) (wanted_put oi a oj.dst u h3)
 have keepD : ∀ d, QuietIf P ops S oi v { a with defers := d :: a.defers } := fun d => hy.of_same rfl rfl
 unfold Go.wpOp at *
 simp only [hj] at *
 rw [wanted_put oj a oi.dst v h1] at h
 split
 ·rename_i hw
  simp only [hw, if_true] at h
  rcases h with h | ⟨hasks, hlets⟩
  case inr => exact .inr ⟨by unfold Oper.asks at *; rw [execOp_put oj hsj a oi.dst v h1] at hasks; exact hasks, hlets⟩
  refine .inl ?_
  unfold Oper.wp at *
  rw [execOp_put oj hsj a oi.dst v h1] at h
  generalize (execOp a.eval oj).run P w = r at *
  cases r with
  | ok n w' =>
   cases n <;> simp only [Oper.upon] at h ⊢
   case value u => exact ⟨keep a hy u, by rw [← Act.put_comm a v u h2]; exact h⟩
   case skip => exact ⟨keep a hy _, by rw [← Act.put_comm a v undef h2]; exact h⟩
   case defer d =>
    refine ⟨keep _ (keepD d) _, ?_⟩
    rw [← Act.put_comm _ v undef h2, ← Act.put_defers]
    exact h
   case enter f args =>
    refine Calls.mono h fun e w'' he => ?_
    cases e with
    | returned u => exact ⟨keep a hy u, by rw [← Act.put_comm a v u h2]; exact he⟩
    | panicked c => exact hQ _ _ _ he
    | outgrown => exact he
   case row row args => exact Rows.mono h fun u w'' he => ⟨keep a hy u, by rw [← Act.put_comm a v u h2]; exact he⟩
  | halt x w' =>
   cases x <;> simp only [Oper.upon] at h ⊢
   case panic u => exact hQ _ _ _ h
 ·rename_i hw
  simp only [hw] at h
  exact ⟨keep a hy _, by rw [← Act.put_comm a v undef h2]; exact h⟩
theorem wpAnyH_firstQ {i : Nat} {oi : Oper} {v : Value} (hi : ops[i]? = some oi) (hsel : ∀ (j : Nat) (o : Oper) cs b, ops[j]? = some o → o.op ≠ .select cs b)
  (hQ : ∀ c a w, Q (.panic c) (a.put oi.dst v) w → Q (.panic c) a w) :
  ∀ (fuel : Nat) (listed : Array Bool) (a : Act) (w : World),
   (∀ j oj, ops[j]? = some oj → j ≠ i → listed.getD j true = false → (∀ e ∈ oj.after, Region.binds md e = true → e.on ≠ i) → oi.apart ops oj = true) →
   i ∈ Region.ready md ops listed → QuietIf P ops S oi v a → S w →
   wpAnyH P md ops Q S fuel (listed.setIfInBounds i true) (a.put oi.dst v) w → wpAnyH P md ops Q S (fuel + 1) listed a w := by
 intro fuel
 induction fuel with
 | zero =>
  intro listed a w _ hr hy hS H
  refine ⟨fun h => (by rw [h] at hr; cases hr), fun j hj => ?_⟩
  by_cases hji : j = i
  ·subst hji; exact hy.wpOp hi hS ⟨hS, H⟩
  ·have := ready_mono hj hji
   rw [H.1] at this
   cases this
 | succ fuel ih =>
  intro listed a w hfree hr hy hS H
  refine ⟨fun h => (by rw [h] at hr; cases hr), fun j hj => ?_⟩
  by_cases hji : j = i
  ·subst hji; exact hy.wpOp hi hS ⟨hS, H⟩
  ·have h1 := H.2 j (ready_mono hj hji)
   obtain ⟨hjun, oj, hoj, hall⟩ := mem_ready.1 hj
   have hnot : ∀ e ∈ oj.after, Region.binds md e = true → e.on ≠ i := fun e he hb heq => by
    have h1 := hall e he hb
    have h0 := (mem_ready.1 hr).1
    rw [heq] at h1
    rcases Nat.lt_or_ge i listed.size with h' | h'
    ·simp [h'] at h0 h1; rw [h0] at h1; cases h1
    ·simp [Array.getElem?_eq_none h'] at h1
   have h2 := wpOp_putQ hoj (hfree j oj hoj hji hjun hnot) (fun cs b => hsel i oi cs b hi) (fun cs b => hsel j oj cs b hoj) hQ hy h1
   have hfree' : ∀ k ok, ops[k]? = some ok → k ≠ i → (listed.setIfInBounds j true).getD k true = false →
     (∀ e ∈ ok.after, Region.binds md e = true → e.on ≠ i) → oi.apart ops ok = true := fun k ok hk hki hun hno => by
    refine hfree k ok hk hki ?_ hno
    by_cases hjk : j = k
    ·subst hjk; exact hjun
    ·rw [getD_set_ne true hjk] at hun; exact hun
   refine wpOp_mono (fun a' w' h3 => ⟨h3.2.1, ih (listed.setIfInBounds j true) a' w' hfree' (ready_mono hr (Ne.symm hji)) h3.1 h3.2.1 ?_⟩) h2
   rw [Array.setIfInBounds_comm _ _ hji]
   exact h3.2.2
/-- Number i, a quiet call, is taken first. -/
theorem wpAnyH_takeQ {i d : Nat} {oi : Oper} {v : Value} {fuel : Nat} {listed : Array Bool} {a : Act} {w : World} (hi : ops[i]? = some oi) (hd : oi.dst = some d)
  (hs : Region.noSelect ops = true) (hf : Region.free md ops listed i = true) (hr : (Region.ready md ops listed).contains i = true)
  (hQ : ∀ c a w, Q (.panic c) (a.put (some d) v) w → Q (.panic c) a w) (hy : QuietIf P ops S oi v a) (hS : S w)
  (h : wpAnyH P md ops Q S fuel (listed.setIfInBounds i true) (a.put (some d) v) w) : wpAnyH P md ops Q S (fuel + 1) listed a w :=
 wpAnyH_firstQ hi (Region.noSelect_spec hs) (by rw [hd]; exact hQ) fuel listed a w (Region.free_spec hi hf) (by simpa using hr) hy hS (by rw [hd]; exact h)
/-- Whatever order is picked, and T holds behind every operation as long as number g (the gate) has not come up. -/
def wpAnyG (P : Program) (md : Region.Mode) (ops : Array Oper) (Q : Exit → Act → World → Prop) (T : World → Prop) (g : Nat) : Nat → Array Bool → Act → World → Prop
 | 0, listed, a, w => Region.ready md ops listed = [] ∧ Q .normal a w
 | fuel + 1, listed, a, w =>
  (Region.ready md ops listed = [] → Q .normal a w) ∧
  ∀ i ∈ Region.ready md ops listed, Go.wpOp P ops Q i (fun a' w' => ((listed.setIfInBounds i true).getD g false = false → T w') ∧ wpAnyG P md ops Q T g fuel (listed.setIfInBounds i true) a' w') a w
theorem wpAny_of_gate {g : Nat} : ∀ (fuel : Nat) (listed : Array Bool) (a : Act) (w : World), wpAnyG P md ops Q S g fuel listed a w → wpAny P md ops Q fuel listed a w
 | 0, _, _, _, h => h
 | fuel + 1, _, _, _, h => ⟨h.1, fun i hi => wpOp_mono (fun a' w' h' => wpAny_of_gate fuel _ a' w' h'.2) (h.2 i hi)⟩
theorem wpAnyG_of_true {g : Nat} : ∀ (fuel : Nat) (listed : Array Bool) (a : Act) (w : World), listed.getD g false = true → wpAnyH P md ops Q (fun _ => True) fuel listed a w → wpAnyG P md ops Q S g fuel listed a w
 | 0, _, _, _, _, h => h
 | fuel + 1, listed, _, _, hg, h => ⟨h.1, fun i hi => wpOp_mono (fun a' w' h' => ⟨fun hh => absurd hh (by rw [getD_set_true hg]; simp), wpAnyG_of_true fuel _ a' w' (getD_set_true hg) h'.2⟩) (h.2 i hi)⟩
/-- The gate waits for number i. -/
def gateOn (md : Region.Mode) (ops : Array Oper) (g i : Nat) : Bool :=
 match ops[g]? with
 | some o => o.after.any fun e => Region.binds md e && (e.on == i)
 | none => false
theorem gateOn_spec {g i : Nat} (h : gateOn md ops g i = true) : ∃ og, ops[g]? = some og ∧ ∃ e ∈ og.after, Region.binds md e = true ∧ e.on = i := by
 unfold gateOn at h
 cases ho : ops[g]? with
 | none => rw [ho] at h; cases h
 | some o =>
  rw [ho] at h
  obtain ⟨e, he, h2⟩ := Array.any_eq_true'.1 h
  rw [Bool.and_eq_true] at h2
  exact ⟨o, rfl, e, he, h2.1, by simpa using h2.2⟩
theorem wpAnyG_first {i g : Nat} {oi : Oper} {v : Value} (hi : ops[i]? = some oi) (hsel : ∀ (j : Nat) (o : Oper) cs b, ops[j]? = some o → o.op ≠ .select cs b)
  (hQ : ∀ c a w, Q (.panic c) (a.put oi.dst v) w → Q (.panic c) a w) (hig : i ≠ g)
  (need : Prop) (hT : need → ∃ og, ops[g]? = some og ∧ ∃ e ∈ og.after, Region.binds md e = true ∧ e.on = i) :
  ∀ (fuel : Nat) (listed : Array Bool) (a : Act) (w : World),
   (∀ j oj, ops[j]? = some oj → j ≠ i → listed.getD j true = false → (∀ e ∈ oj.after, Region.binds md e = true → e.on ≠ i) → oi.apart ops oj = true) →
   i ∈ Region.ready md ops listed → (need → listed.getD g false = false) → YieldsIf P ops (fun w => need → S w) oi v a → (listed.getD g false = false → S w) →
   wpAnyG P md ops Q S g fuel (listed.setIfInBounds i true) (a.put oi.dst v) w → wpAnyG P md ops Q S g (fuel + 1) listed a w := by
 intro fuel
 induction fuel with
 | zero =>
  intro listed a w _ hr hgl hy hS H
  refine ⟨fun h => (by rw [h] at hr; cases hr), fun j hj => ?_⟩
  by_cases hji : j = i
  ·subst hji; exact hy.wpOp hi (fun hn => hS (hgl hn)) ⟨fun hh => hS (by rw [getD_set_ne false hig] at hh; exact hh), H⟩
  ·have := ready_mono hj hji
   rw [H.1] at this
   cases this
 | succ fuel ih =>
  intro listed a w hfree hr hgl hy hS H
  refine ⟨fun h => (by rw [h] at hr; cases hr), fun j hj => ?_⟩
  by_cases hji : j = i
  ·subst hji; exact hy.wpOp hi (fun hn => hS (hgl hn)) ⟨fun hh => hS (by rw [getD_set_ne false hig] at hh; exact hh), H⟩
  ·have h1 := H.2 j (ready_mono hj hji)
   obtain ⟨hjun, oj, hoj, hall⟩ := mem_ready.1 hj
   have hnot : ∀ e ∈ oj.after, Region.binds md e = true → e.on ≠ i := fun e he hb heq => by
    have h1 := hall e he hb
    have h0 := (mem_ready.1 hr).1
    rw [heq] at h1
    rcases Nat.lt_or_ge i listed.size with h' | h'
    ·simp [h'] at h0 h1; rw [h0] at h1; cases h1
    ·simp [Array.getElem?_eq_none h'] at h1
   have hgj : need → (listed.setIfInBounds j true).getD g false = false := fun hn => by
    obtain ⟨og, hog, e, he, hb, hei⟩ := hT hn
    have hjg : j ≠ g := fun hh => by
     subst hh
     rw [hog] at hoj
     obtain rfl := Option.some.inj hoj
     exact hnot e he hb hei
    rw [getD_set_ne false hjg]
    exact hgl hn
   have h2 := wpOp_putIf hoj (hfree j oj hoj hji hjun hnot) (fun cs b => hsel i oi cs b hi) (fun cs b => hsel j oj cs b hoj) hQ hy h1
   have hfree' : ∀ k ok, ops[k]? = some ok → k ≠ i → (listed.setIfInBounds j true).getD k true = false →
     (∀ e ∈ ok.after, Region.binds md e = true → e.on ≠ i) → oi.apart ops ok = true := fun k ok hk hki hun hno => by
    refine hfree k ok hk hki ?_ hno
    by_cases hjk : j = k
    ·subst hjk; exact hjun
    ·rw [getD_set_ne true hjk] at hun; exact hun
   have hsame : ((listed.setIfInBounds i true).setIfInBounds j true).getD g false = (listed.setIfInBounds j true).getD g false := by
    rw [Array.setIfInBounds_comm _ _ (Ne.symm hji), getD_set_ne false hig]
   refine wpOp_mono (fun a' w' h3 => ⟨fun hh => h3.2.1 (by rw [hsame]; exact hh), ih (listed.setIfInBounds j true) a' w' hfree' (ready_mono hr (Ne.symm hji)) hgj h3.1 (fun hh => h3.2.1 (by rw [hsame]; exact hh)) ?_⟩) h2
   rw [Array.setIfInBounds_comm _ _ hji]
   exact h3.2.2
/-- Number i, that the gate waits for, is taken first: it yields its value in every world that meets S. -/
theorem wpAnyG_takeS {i d g : Nat} {oi : Oper} {v : Value} {fuel : Nat} {listed : Array Bool} {a : Act} {w : World} (hi : ops[i]? = some oi) (hd : oi.dst = some d)
  (hs : Region.noSelect ops = true) (hf : Region.free md ops listed i = true) (hr : (Region.ready md ops listed).contains i = true) (hg : (gateOn md ops g i && !(i == g) && !(listed.getD g false)) = true)
  (hQ : ∀ c a w, Q (.panic c) (a.put (some d) v) w → Q (.panic c) a w) (hy : YieldsIf P ops S oi v a) (hS : S w)
  (h : wpAnyG P md ops Q S g fuel (listed.setIfInBounds i true) (a.put (some d) v) w) : wpAnyG P md ops Q S g (fuel + 1) listed a w := by
 rw [Bool.and_eq_true, Bool.and_eq_true] at hg
 refine wpAnyG_first hi (Region.noSelect_spec hs) (by rw [hd]; exact hQ) (by simpa using hg.1.2) True (fun _ => gateOn_spec hg.1.1) fuel listed a w (Region.free_spec hi hf) (by simpa using hr) (fun _ => by simpa using hg.2) ?_ (fun _ => hS) (by rw [hd]; exact h)
 exact hy.imp (fun ⟨hw, hv⟩ => ⟨hw, fun w hw2 => hv w (hw2 trivial)⟩) id
/-- Number i, that yields its value in whatever world, is taken first. -/
theorem wpAnyG_takeA {i d g : Nat} {oi : Oper} {v : Value} {fuel : Nat} {listed : Array Bool} {a : Act} {w : World} (hi : ops[i]? = some oi) (hd : oi.dst = some d)
  (hs : Region.noSelect ops = true) (hf : Region.free md ops listed i = true) (hr : (Region.ready md ops listed).contains i = true) (hg : (!(i == g)) = true)
  (hQ : ∀ c a w, Q (.panic c) (a.put (some d) v) w → Q (.panic c) a w) (hy : YieldsIf P ops (fun _ => True) oi v a) (hS : S w)
  (h : wpAnyG P md ops Q S g fuel (listed.setIfInBounds i true) (a.put (some d) v) w) : wpAnyG P md ops Q S g (fuel + 1) listed a w := by
 refine wpAnyG_first hi (Region.noSelect_spec hs) (by rw [hd]; exact hQ) (by simpa using hg) False (fun h => h.elim) fuel listed a w (Region.free_spec hi hf) (by simpa using hr) (fun h => h.elim) ?_ (fun _ => hS) (by rw [hd]; exact h)
 exact hy.imp (fun ⟨hw, hv⟩ => ⟨hw, fun w _ => hv w trivial⟩) id
/-- The gate itself, alone ready: behind it nothing is held any more. -/
theorem wpAnyG_gate {g : Nat} {o : Oper} {fuel : Nat} {listed : Array Bool} {a : Act} {w : World} (ho : ops[g]? = some o) (hr : Region.ready md ops listed = [g]) (hb : (listed.setIfInBounds g true).getD g false = true)
  (h : ∀ K' : Act → World → Prop, RowKit.Hid (∀ a w, wpAnyH P md ops Q (fun _ => True) fuel (listed.setIfInBounds g true) a w → K' a w) → if Region.wanted o (yielded ops a.tmps) = true then Oper.wp P o a w K' Q else K' (a.put o.dst undef) w) :
  wpAnyG P md ops Q S g (fuel + 1) listed a w := by
 refine ⟨fun h0 => absurd (hr ▸ h0) (by simp), fun i hi => ?_⟩
 rw [hr] at hi
 obtain rfl := List.mem_singleton.1 hi
 exact wpOp_step ho (fun K' hK => h K' (lh (fun a w h' => hK a w ⟨fun hh => absurd hh (by rw [hb]; simp), wpAnyG_of_true _ _ _ _ hb h'⟩)))
/-- The beginning: a region that draws its order. -/
theorem wp_region_gate (g : Nat) {id : Nat} {a : Act} {w : World} (hm : P.follows .mixedOrders = true)
  (h : wpAnyG P .any ops Q S g ops.size (Array.replicate ops.size false) a w.drew) : (Code.region id ops true).wp P Q a w :=
 wp_region_any hm (wpAny_of_gate _ _ _ _ h)
/-- A struct is built in every world. -/
theorem yieldsIf_build {o : Oper} {a : Act} (hw : Region.wanted o (yielded ops a.tmps) = true) (t : TypeId) (parts : Array (Nat × Operand)) (ho : o.op = .build t parts) (cs : Array Value)
  (hb : P.built t (parts.map fun (i, x) => (i, a.eval x)).toList = some cs) : YieldsIf P ops S o (.agg cs) a := by
 refine Or.inl ⟨hw, fun w _ => ?_⟩
 unfold execOp
 simp only [ho, Sem.run_bind, run_build w t _ cs hb, Result.andThen_ok]
 rfl
/-- A whole block is stored, as one step of a region that draws its order. -/
theorem step_store_row {o : Oper} {a : Act} {w : World} {K : Act → World → Prop} {E : Prop} (hgd : o.guard = none) (ty : TypeId) (x y : Operand) (ho : o.op = .store ty x y) (hd : o.dst = none)
  (g : Nat) (cells : Array Value) (hx : a.eval x = .pointer (some ⟨g, 0, none⟩)) (hy : a.eval y = .agg cells)
  (t : TypeId) (old : Array Value) (hg : w.heap[g]? = some (.cells old t (0, 0))) (hi : (P.info? ty).map (·.size) = some cells.size)
  (hold : old.size = cells.size) (h1 : cells.all (·.oneCell') = true)
  (h : K a (w.setRow g cells)) : if Region.wanted o (yielded ops a.tmps) = true then Oper.wp P o a w K Q else E := by
 have hw : Region.wanted o (yielded ops a.tmps) = true := by simp [Region.wanted, hgd]
 rw [if_pos hw]
 exact wp_store_row ty x y ho g cells hx hy t old hg hi hold h1 (by rw [hd]; exact h)
end

/-- The operations of a list yield, one behind the other, each in whatever world. -/
def wpPure (P : Program) (ops : Array Oper) (Q : Act → Prop) : List Oper → Act → Prop
 | [], a => Q a
 | o :: rest, a => ∃ v, Yields P ops o v a ∧ wpPure P ops Q rest (a.put o.dst v)

theorem wpPure_nil {P : Program} {ops : Array Oper} {Q : Act → Prop} {a : Act} (h : Q a) : wpPure P ops Q [] a := h
theorem wpPure_step {P : Program} {ops : Array Oper} {Q : Act → Prop} {a : Act} {o : Oper} {rest : List Oper} (v : Value) (hy : Yields P ops o v a)
  (h : ∀ K : Act → Prop, (∀ a, wpPure P ops Q rest a → K a) → K (a.put o.dst v)) : wpPure P ops Q (o :: rest) a :=
 ⟨v, hy, h _ fun _ h => h⟩

theorem wpAny_pure {P : Program} {ops : Array Oper} {md : Region.Mode} {Q : Exit → Act → World → Prop} {g n : Nat} {w : World} (hsel : Region.noSelect ops = true)
  (hQ : ∀ c a a' w, Q (.panic c) a w → Q (.panic c) a' w) (tl : List Oper) (htl : ∀ j, tl[j]? = ops[n + j]?) (hg : tl.length = g) :
  ∀ (l : List Oper) (k : Nat) (listed : Array Bool) (a : Act), (∀ j, j < l.length → l[j]? = ops[k + j]?) → k + l.length = n →
   Region.lexHead md ops g l.length k listed = true → wpPure P ops (fun a' => wpList P ops Q tl a' w) l a → wpAny P md ops Q (l.length + g) listed a w
 | [], k, listed, a, _, hk, hB, h => by
  have : k = n := by simpa using hk
  subst this
  subst hg
  rw [List.length_nil, Nat.zero_add]
  exact wpAny_of_seq tl k listed a w htl (by simpa [Region.lexHead] using hB) h
 | o :: l, k, listed, a, hl, hk, hB, h => by
  have h0 : ops[k]? = some o := by simpa using (hl 0 (by simp)).symm
  simp only [List.length_cons, Region.lexHead, Bool.and_eq_true] at hB
  obtain ⟨⟨hr, hf⟩, hB'⟩ := hB
  obtain ⟨v, hy, hK⟩ := h
  rw [List.length_cons, show l.length + 1 + g = (l.length + g) + 1 from by omega]
  exact wpAny_take h0 hsel hf hr (fun c a' w' hp => hQ c _ _ w' hp) hy
   (wpAny_pure hsel hQ tl htl hg l (k + 1) _ _ (fun j hj => by have := hl (j + 1) (by simp; omega); simpa [Nat.add_assoc, Nat.add_comm 1 j] using this) (by simp only [List.length_cons] at hk; omega) hB' hK)

def lexPureB (ops : Array Oper) (n : Nat) : Bool :=
 Region.noSelect ops && decide (n ≤ ops.size) && Region.lexHead .any ops (ops.size - n) n 0 (Array.replicate ops.size false)

theorem wp_region_pure_tail {P : Program} {id : Nat} {Q : Exit → Act → World → Prop} {a : Act} {w : World} {l : List Oper} (n : Nat) (hm : P.follows .mixedOrders = true) (hB : lexPureB l.toArray n = true)
  (hQ : ∀ c a a' w, Q (.panic c) a w → Q (.panic c) a' w)
  (h : wpPure P l.toArray (fun a' => wpList P l.toArray Q (l.drop n) a' w.drew) (l.take n) a) : (Code.region id l.toArray true).wp P Q a w := by
 simp only [lexPureB, Bool.and_eq_true, decide_eq_true_eq] at hB
 obtain ⟨⟨hsel, hn⟩, hlex⟩ := hB
 have hn' : n ≤ l.length := by simpa using hn
 have htl : (l.take n).length = n := by simp; omega
 have hdl : (l.drop n).length = l.toArray.size - n := by simp
 refine wp_region_any hm ?_
 have H := wpAny_pure (md := .any) (g := l.toArray.size - n) (n := n) (w := w.drew) hsel hQ (l.drop n) (fun j => by simp [List.getElem?_drop]) hdl (l.take n) 0 (Array.replicate l.toArray.size false) a
  (fun j hj => by
   have hj' : j < n := by rw [htl] at hj; exact hj
   simp [hj']) (by rw [htl]; omega) (by rw [htl]; exact hlex) h
 rw [htl, show n + (l.toArray.size - n) = l.toArray.size by simp; omega] at H
 exact H
end Go.Proofs.YtfibaopngpfmjaaGreatDoor
