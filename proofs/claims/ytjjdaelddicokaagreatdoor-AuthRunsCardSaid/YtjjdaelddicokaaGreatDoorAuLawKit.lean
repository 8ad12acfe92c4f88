/- The contracts of auth as the laws use them: results named by an equation. Conditions: keys and texts of at most 1000, few steps. -/
import Derived.Test.YtjjdaelddicokaaGreatDoorAuRun
import Derived.Test.YtjjdaelddicokaaGreatDoorAuStart
set_option linter.unusedVariables false
set_option linter.unusedSimpArgs false
namespace Go.Proofs.YtjjdaelddicokaaGreatDoor
open Go.RowKit
open Au (Att Cnv)
/-- A conversation and an error handed back. -/
def BxR (w : World) (R : Cnv) (er : Int) (e : Ending) (w' : World) : Prop :=
  ∃ a n k, e = .returned (.tuple #[.agg #[.int .i64 R.id, .string (T R.proto), .int .i64 R.role, .int .i64 R.phase, .int .i64 R.step, (.slice a n k), .string (T R.own), .string (T R.peer), .string (T R.user), .int .i64 R.err], .int .i64 er]) ∧ Atts w' (.slice a n k) R.key ∧ Below w.heap.size w w'
def RdR (w : World) (R : Cnv) (t : List UInt8) (er : Int) (e : Ending) (w' : World) : Prop :=
  ∃ a n k, e = .returned (.tuple #[.agg #[.int .i64 R.id, .string (T R.proto), .int .i64 R.role, .int .i64 R.phase, .int .i64 R.step, (.slice a n k), .string (T R.own), .string (T R.peer), .string (T R.user), .int .i64 R.err], .string (T t), .int .i64 er]) ∧ Atts w' (.slice a n k) R.key ∧ Below w.heap.size w w'
def RnR (w : World) (A B : Cnv) (r : Int) (e : Ending) (w' : World) : Prop :=
  ∃ a n k b n2 k2, e = .returned (.tuple #[.agg #[.int .i64 A.id, .string (T A.proto), .int .i64 A.role, .int .i64 A.phase, .int .i64 A.step, (.slice a n k), .string (T A.own), .string (T A.peer), .string (T A.user), .int .i64 A.err], .agg #[.int .i64 B.id, .string (T B.proto), .int .i64 B.role, .int .i64 B.phase, .int .i64 B.step, (.slice b n2 k2), .string (T B.own), .string (T B.peer), .string (T B.user), .int .i64 B.err], .int .i64 r]) ∧ Atts w' (.slice a n k) A.key ∧ Atts w' (.slice b n2 k2) B.key ∧ Below w.heap.size w w'
theorem bx_of {w : World} {R : Cnv × Int} {C : Cnv} {er : Int} {l : List Att} {e : Ending} {w' : World} (h : R = (C, er)) (hl : C.key = l) (hw : WrSays w R l e w') : BxR w C er e w' := by
  subst h
  obtain ⟨a, n, k, h1, h2, h3, h4⟩ := hw
  exact ⟨a, n, k, h1, by rw [hl]; exact h2, h4⟩
namespace Au
theorem run_keys : ∀ (k : Nat) (n : Int) (a b : Cnv), (run k n a b).1.key = a.key ∧ (run k n a b).2.1.key = b.key := by
  intro k
  induction k with
  | zero => intro n a b; exact ⟨rfl, rfl⟩
  | succ k ih =>
    intro n a b
    rw [run]
    split
    · obtain ⟨h1, h2⟩ := ih (n + 1) (read a).1 (write b (read a).2.1).1
      exact ⟨h1.trans (read_key a), h2.trans (write_key b _)⟩
    · split
      · obtain ⟨h1, h2⟩ := ih (n + 1) (write a (read b).2.1).1 (read b).1
        exact ⟨h1.trans (write_key a _), h2.trans (read_key b)⟩
      · exact ⟨rfl, rfl⟩
end Au
theorem start_bx (proto : List UInt8) (role : Int) (kv : Value) (l : List Att) (nonce : List UInt8) (C : Cnv) (er : Int) (h : Au.start proto role l nonce = (C, er)) (w : World) (hk : Atts w kv l) (hl : l.length ≤ 1000) (hfl : ∀ j (h : j < l.length), l[j].name.length ≤ 1000 ∧ l[j].value.length ≤ 1000) (hn : nonce.length ≤ 1000) :
    Calls Tryz.prog 24 #[.string (T proto), .int .i64 role, kv, .string (T nonce)] w (BxR w C er) :=
  (start_any proto role kv l nonce w hk hl hfl hn).mono fun e w' h' => bx_of h (by rw [h]) h'
theorem read_bx (c R : Cnv) (t : List UInt8) (er : Int) (h : Au.read c = (R, t, er)) (ao : Option Addr) (m cp : Nat) (w : World) (hk : Atts w (.slice ao m cp) c.key) (hf : Fine c) (hst : 0 ≤ c.step ∧ c.step ≤ 1000000) (hK : KIn w) :
    Calls Tryz.prog 8 #[.agg #[.int .i64 c.id, .string (T c.proto), .int .i64 c.role, .int .i64 c.phase, .int .i64 c.step, (.slice ao m cp), .string (T c.own), .string (T c.peer), .string (T c.user), .int .i64 c.err]] w (RdR w R t er) :=
  (read_any c ao m cp w hk hf hst hK).mono fun e w' h' => by
    obtain ⟨a, n, k, h1, h2, h3, h4⟩ := h'
    have hkk := Au.read_key c
    rw [h] at h1 hkk
    exact ⟨a, n, k, h1, by rw [show R.key = c.key from hkk]; exact h2, h4⟩
theorem write_bx (c R : Cnv) (s : List UInt8) (er : Int) (h : Au.write c s = (R, er)) (ao : Option Addr) (m cp : Nat) (w : World) (hk : Atts w (.slice ao m cp) c.key) (hf : Fine c) (hst : 0 ≤ c.step ∧ c.step ≤ 1000000) (hK : KIn w) (hs : s.length ≤ 100000) :
    Calls Tryz.prog 12 #[.agg #[.int .i64 c.id, .string (T c.proto), .int .i64 c.role, .int .i64 c.phase, .int .i64 c.step, (.slice ao m cp), .string (T c.own), .string (T c.peer), .string (T c.user), .int .i64 c.err], .string (T s)] w (BxR w R er) :=
  (write_any c s ao m cp w hk hf hst hK hs).mono fun e w' h' => bx_of h (by have := Au.write_key c s; rw [h] at this; exact this) h'
theorem run_bx (a b A B : Cnv) (r : Int) (h : Au.run 16 0 a b = (A, B, r)) (ao bo : Option Addr) (m cp n dp : Nat) (w : World) (ha : Atts w (.slice ao m cp) a.key) (hb : Atts w (.slice bo n dp) b.key) (hfa : Fine a) (hfb : Fine b) (hsa : 0 ≤ a.step ∧ a.step ≤ 1000) (hsb : 0 ≤ b.step ∧ b.step ≤ 1000) (hK : KIn w) :
    Calls Tryz.prog 16 #[.agg #[.int .i64 a.id, .string (T a.proto), .int .i64 a.role, .int .i64 a.phase, .int .i64 a.step, (.slice ao m cp), .string (T a.own), .string (T a.peer), .string (T a.user), .int .i64 a.err], .agg #[.int .i64 b.id, .string (T b.proto), .int .i64 b.role, .int .i64 b.phase, .int .i64 b.step, (.slice bo n dp), .string (T b.own), .string (T b.peer), .string (T b.user), .int .i64 b.err]] w (RnR w A B r) :=
  (run_any a b ao bo m cp n dp w ha hb hfa hfb hsa hsb hK).mono fun e w' h' => by
    obtain ⟨a1, n1, k1, b1, n2, k2, h1, h2, h3, _, _, h4⟩ := h'
    have hkk := Au.run_keys 16 0 a b
    rw [h] at h1 hkk
    exact ⟨a1, n1, k1, b1, n2, k2, h1, by rw [show A.key = a.key from hkk.1]; exact h2, by rw [show B.key = b.key from hkk.2]; exact h3, h4⟩
theorem done_bx (c : Cnv) (u : List UInt8) (ok : Bool) (h : Au.done c = (u, ok)) (ao : Option Addr) (m cp : Nat) (w : World) :
    Calls Tryz.prog 14 #[.agg #[.int .i64 c.id, .string (T c.proto), .int .i64 c.role, .int .i64 c.phase, .int .i64 c.step, (.slice ao m cp), .string (T c.own), .string (T c.peer), .string (T c.user), .int .i64 c.err]] w fun e w' => e = .returned (.tuple #[.string (T u), .bool ok]) ∧ Below w.heap.size w w' :=
  (done_any c ao m cp w).mono fun e w' h' => by rw [h] at h'; exact h'
/-- A box of a law. -/
structure Bx (W : World) (g : Nat) (c : Cnv) (ao : Option Addr) (m cp : Nat) : Prop where
  row : W.heap[g]? = some (.cells #[.int .i64 c.id, .string (T c.proto), .int .i64 c.role, .int .i64 c.phase, .int .i64 c.step, (.slice ao m cp), .string (T c.own), .string (T c.peer), .string (T c.user), .int .i64 c.err] 25 (0, 0))
  att : Atts W (.slice ao m cp) c.key
theorem Bx.next {W W' : World} {g : Nat} {c : Cnv} {ao : Option Addr} {m cp : Nat} (h : Bx W g c ao m cp) (hb : Below W.heap.size W W') : Bx W' g c ao m cp :=
  ⟨(hb.block _ (row_ltA h.row)).trans h.row, h.att.below hb⟩
theorem bx_new {W : World} {c : Cnv} {ao : Option Addr} {m cp : Nat} (h : Atts W (.slice ao m cp) c.key) : Bx (W.alloc (.cells #[.int .i64 c.id, .string (T c.proto), .int .i64 c.role, .int .i64 c.phase, .int .i64 c.step, (.slice ao m cp), .string (T c.own), .string (T c.peer), .string (T c.user), .int .i64 c.err] 25)) W.heap.size c ao m cp :=
  ⟨heap_alloc_new W _, h.below ((Below.refl _ _).alloc (Nat.le_refl _) _)⟩
theorem bx_two {W : World} {A B : Cnv} {ao bo : Option Addr} {m cp n dp : Nat} (h : Atts W (.slice ao m cp) A.key) (h2 : Atts W (.slice bo n dp) B.key) : Bx ((W.alloc (.cells #[.int .i64 A.id, .string (T A.proto), .int .i64 A.role, .int .i64 A.phase, .int .i64 A.step, (.slice ao m cp), .string (T A.own), .string (T A.peer), .string (T A.user), .int .i64 A.err] 25)).alloc (.cells #[.int .i64 B.id, .string (T B.proto), .int .i64 B.role, .int .i64 B.phase, .int .i64 B.step, (.slice bo n dp), .string (T B.own), .string (T B.peer), .string (T B.user), .int .i64 B.err] 25)) W.heap.size A ao m cp ∧ Bx ((W.alloc (.cells #[.int .i64 A.id, .string (T A.proto), .int .i64 A.role, .int .i64 A.phase, .int .i64 A.step, (.slice ao m cp), .string (T A.own), .string (T A.peer), .string (T A.user), .int .i64 A.err] 25)).alloc (.cells #[.int .i64 B.id, .string (T B.proto), .int .i64 B.role, .int .i64 B.phase, .int .i64 B.step, (.slice bo n dp), .string (T B.own), .string (T B.peer), .string (T B.user), .int .i64 B.err] 25)) (W.heap.size + 1) B bo n dp ∧ Below W.heap.size W ((W.alloc (.cells #[.int .i64 A.id, .string (T A.proto), .int .i64 A.role, .int .i64 A.phase, .int .i64 A.step, (.slice ao m cp), .string (T A.own), .string (T A.peer), .string (T A.user), .int .i64 A.err] 25)).alloc (.cells #[.int .i64 B.id, .string (T B.proto), .int .i64 B.role, .int .i64 B.phase, .int .i64 B.step, (.slice bo n dp), .string (T B.own), .string (T B.peer), .string (T B.user), .int .i64 B.err] 25)) := by
  obtain ⟨h3, h4⟩ := two_rows W (.cells #[.int .i64 A.id, .string (T A.proto), .int .i64 A.role, .int .i64 A.phase, .int .i64 A.step, (.slice ao m cp), .string (T A.own), .string (T A.peer), .string (T A.user), .int .i64 A.err] 25) (.cells #[.int .i64 B.id, .string (T B.proto), .int .i64 B.role, .int .i64 B.phase, .int .i64 B.step, (.slice bo n dp), .string (T B.own), .string (T B.peer), .string (T B.user), .int .i64 B.err] 25)
  have hB := ((Below.refl W.heap.size W).alloc (Nat.le_refl _) (.cells #[.int .i64 A.id, .string (T A.proto), .int .i64 A.role, .int .i64 A.phase, .int .i64 A.step, (.slice ao m cp), .string (T A.own), .string (T A.peer), .string (T A.user), .int .i64 A.err] 25)).alloc (by simp) (.cells #[.int .i64 B.id, .string (T B.proto), .int .i64 B.role, .int .i64 B.phase, .int .i64 B.step, (.slice bo n dp), .string (T B.own), .string (T B.peer), .string (T B.user), .int .i64 B.err] 25)
  exact ⟨⟨h3, h.below hB⟩, ⟨h4, h2.below hB⟩, hB⟩
end Go.Proofs.YtjjdaelddicokaaGreatDoor
