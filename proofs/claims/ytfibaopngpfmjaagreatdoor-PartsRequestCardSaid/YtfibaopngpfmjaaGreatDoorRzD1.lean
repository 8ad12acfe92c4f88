/- Requests as lists of bytes. Conditions: those that each theorem names. -/
import Derived.Test.YtfibaopngpfmjaaGreatDoorRzA1
import Derived.Test.YtfibaopngpfmjaaGreatDoorRzB3
set_option linter.unusedVariables false
set_option linter.unusedSimpArgs false
set_option maxHeartbeats 4000000
namespace Go.Proofs.YtfibaopngpfmjaaGreatDoor
open Go.RowKit Go.Proofs
/-- A number is returned: 0 exactly if p; the world as it was. -/
def SayI (p : Prop) (w : World) (e : Ending) (w' : World) : Prop := ∃ k, e = .returned (.int .i64 k) ∧ (k = 0 ↔ p) ∧ w' = w
theorem sayI {p : Prop} {w : World} (k : Int) (h : k = 0 ↔ p) : SayI p w (.returned (.int .i64 k)) w := ⟨k, rfl, h, rfl⟩
theorem say0 {p : Prop} {w : World} (h : p) : SayI p w (.returned (.int .i64 0)) w := ⟨0, rfl, by simp [h], rfl⟩
theorem sayE {p : Prop} {w : World} (k : Int) (hk : k ≠ 0) (h : ¬ p) : SayI p w (.returned (.int .i64 k)) w := ⟨k, rfl, by simp [h, hk], rfl⟩
/-- A truth value is returned: true exactly if p; the world as it was. -/
def SayB (p : Prop) (w : World) (e : Ending) (w' : World) : Prop := ∃ b, e = .returned (.bool b) ∧ (b = true ↔ p) ∧ w' = w
theorem sayT {p : Prop} {w : World} (h : p) : SayB p w (.returned (.bool true)) w := ⟨true, rfl, by simp [h], rfl⟩
theorem sayF {p : Prop} {w : World} (h : ¬ p) : SayB p w (.returned (.bool false)) w := ⟨false, rfl, by simp [h], rfl⟩
/-- Valid names. -/
def NameOk (s : List UInt8) : Prop := (s ≠ [] ∧ s ≠ [46] ∧ s ≠ [46, 46] ∧ s.length ≤ 64) ∧ ∀ b ∈ s, 33 ≤ b.toNat ∧ b.toNat ≤ 126 ∧ b.toNat ≠ 47
theorem in_any (n lo hi : Int) (w : World) : Calls Tryz.prog 138 #[.int .i64 n, .int .i64 lo, .int .i64 hi] w (SayI (lo ≤ n ∧ n ≤ hi) w) := by
 go_enter Tryz.func138, Tryz.ntmps138
 by_cases h1 : n < lo
 ·go_wp2_with fail
  go_ret
  exact sayE _ (by omega) (by omega)
 have k1 : decide (n < lo) = false := decide_eq_false h1
 by_cases h2 : hi < n
 ·go_wp2_with fail
  go_ret
  exact sayE _ (by omega) (by omega)
 have k2 : decide (hi < n) = false := decide_eq_false h2
 go_wp2_with fail
 go_ret
 exact say0 (by first | trivial | exact ⟨by omega, by omega⟩)
theorem short_any (s : List UInt8) (k : Int) (w : World) : Calls Tryz.prog 139 #[.string (T s), .int .i64 k] w (SayI ((s.length : Int) ≤ k) w) := by
 go_enter Tryz.func139, Tryz.ntmps139
 have hsz : (T s).size = s.length := T_size s
 by_cases h1 : k < s.length
 ·go_wp2_with fail
  go_ret
  exact sayE _ (by omega) (by omega)
 have k1 : decide (k < (s.length : Int)) = false := decide_eq_false h1
 go_wp2_with fail
 go_ret
 exact say0 (by first | trivial | omega)
theorem fidx_any (n : Int) (w : World) : Calls Tryz.prog 140 #[.int .i64 n] w (SayI (0 ≤ n ∧ n ≤ 4294967294) w) := by
 have HI := lh (fun W => in_any n 0 4294967294 W)
 go_enter Tryz.func140, Tryz.ntmps140
 go_wp2_with fail
 (with_reducible refine (HI.out _).mono ?_); rintro e wx ⟨k, rfl, hk, rfl⟩
 have HK := lh hk
 clear hk
 go_wp2_with fail
 go_ret
 exact sayI _ HK.out
theorem pvalid_any (s : List UInt8) (w : World) (hs : s.length ≤ 1000000000000000000) : Calls Tryz.prog 196 #[.string (T s)] w (SayB (NameOk s) w) := by
 have hsz : (T s).size = s.length := T_size s
 have HN := lh (show NameOk s ↔ ((s ≠ [] ∧ s ≠ [46] ∧ s ≠ [46, 46] ∧ s.length ≤ 64) ∧ ∀ b ∈ s, 33 ≤ b.toNat ∧ b.toNat ≤ 126 ∧ b.toNat ≠ 47) from Iff.rfl)
 generalize NameOk s = Q at *
 go_enter Tryz.func196, Tryz.ntmps196
 by_cases e0 : s = []
 ·subst e0
  go_wp2_with fail
  go_ret
  exact sayF (by rw [HN.out]; simp)
 by_cases e1 : s = [46]
 ·subst e1
  go_wp2_with fail
  go_ret
  exact sayF (by rw [HN.out]; simp)
 by_cases e2 : s = [46, 46]
 ·subst e2
  go_wp2_with fail
  go_ret
  exact sayF (by rw [HN.out]; simp)
 have k0 : s.isEmpty = false := by cases s; exact absurd rfl e0; rfl
 have k1 : (s == [46]) = false := by simp [e1]
 have k2 : (s == [46, 46]) = false := by simp [e2]
 by_cases e3 : s.length ≤ 64
 rotate_left
 ·have k3 : (64 : Int) < s.length := by omega
  have HF := lh (show ¬ Q from by rw [HN.out]; intro h; exact e3 h.1.2.2.2)
  clear HN e0 e1 e2 e3
  go_wp2_with fail
  go_ret
  exact sayF HF.out
 have k3 : decide ((64 : Int) < s.length) = false := decide_eq_false (by omega)
 have HN1 := lh (show Q ↔ ∀ j (h : j < s.length), 33 ≤ s[j].toNat ∧ s[j].toNat ≤ 126 ∧ s[j].toNat ≠ 47 from by
  rw [HN.out]
  exact ⟨fun h j hj => h.2 _ (List.getElem_mem hj), fun h => ⟨⟨e0, e1, e2, e3⟩, fun b hb => by obtain ⟨j, hj, rfl⟩ := List.getElem_of_mem hb; exact h j hj⟩⟩)
 clear HN e0 e1 e2 e3
 go_wp2_with fail
 go_loop [21] (fun i => ∃ k : Nat, k ≤ s.length ∧ i = .int .i64 (k : Int) ∧ Hid (∀ j (h : j < s.length), j < k → 33 ≤ s[j].toNat ∧ s[j].toNat ≤ 126 ∧ s[j].toNat ≠ 47)) (fun i => s.length - (intOf i).toNat)
 case atStart => exact ⟨0, by omega, rfl, (fun j hj h => by omega)⟩
 case round =>
  obtain ⟨k, hk, rfl, hn⟩ := hrel
  by_cases hlt : k < s.length
  ·have hki : (k : Int) < s.length := by omega
   have HNX := lh (fun (he : 33 ≤ s[k].toNat ∧ s[k].toNat ≤ 126 ∧ s[k].toNat ≠ 47) => show ∀ j (h : j < s.length), j < k + 1 → 33 ≤ s[j].toNat ∧ s[j].toNat ≤ 126 ∧ s[j].toNat ≠ 47 from fun j hj hjk => by
    rcases Nat.lt_or_ge j k with h | h
    ·exact hn.out j hj h
    ·obtain rfl : j = k := by omega
     exact he)
   have HNO := lh (fun (he : ¬ (33 ≤ s[k].toNat ∧ s[k].toNat ≤ 126 ∧ s[k].toNat ≠ 47)) => show ¬ Q from fun hq => he (HN1.out.1 hq k hlt))
   have hx : (T s)[k]'(by rw [T_size]; exact hlt) = s[k] := rfl
   clear hn HN1
   generalize s[k] = c at *
   by_cases c1 : c.toNat < 33
   ·have HF := lh (HNO.out (by omega))
    have d1 : (c.toNat : Int) < 33 := by omega
    clear HNO HNX
    go_wp2_with fail
    go_ret
    exact sayF HF.out
   have d1 : decide ((c.toNat : Int) < 33) = false := decide_eq_false (by omega)
   by_cases c2 : 126 < c.toNat
   ·have HF := lh (HNO.out (by omega))
    have d2 : (126 : Int) < c.toNat := by omega
    clear HNO HNX
    go_wp2_with fail
    go_ret
    exact sayF HF.out
   have d2 : decide ((126 : Int) < c.toNat) = false := decide_eq_false (by omega)
   by_cases c3 : c.toNat = 47
   ·have HF := lh (HNO.out (by omega))
    have d3 : ((c.toNat : Int) == 47) = true := by simp; omega
    clear HNO HNX
    go_wp2_with fail
    go_ret
    exact sayF HF.out
   have d3 : ((c.toNat : Int) == 47) = false := by simp; omega
   have HF := lh (HNX.out ⟨by omega, by omega, c3⟩)
   clear HNO HNX c1 c2 c3
   go_wp2_with fail
   go_round
   case rel => exact ⟨k + 1, by omega, by go_num, HF⟩
   case measure => simp [intOf]; omega
  ·obtain rfl : k = s.length := by omega
   have HF := lh (HN1.out.2 (fun j h => hn.out j h h))
   clear HN1 hn
   go_wp2_with fail
   go_ret
   exact sayT HF.out
theorem named_any (s : List UInt8) (w : World) (hs : s.length ≤ 1000000000000000000) : Calls Tryz.prog 144 #[.string (T s)] w (SayI (NameOk s) w) := by
 have HV := lh (fun W => pvalid_any s W hs)
 generalize NameOk s = Q at *
 go_enter Tryz.func144, Tryz.ntmps144
 go_wp2_with fail
 (with_reducible refine (HV.out _).mono ?_); rintro e wx ⟨b, rfl, hb, rfl⟩
 cases b with
 | true =>
  have HF := lh (hb.1 rfl)
  clear hb
  go_wp2_with fail
  go_ret
  exact say0 HF.out
 | false =>
  have HF := lh (show ¬ Q from fun h => nomatch hb.2 h)
  clear hb
  go_wp2_with fail
  go_ret
  exact sayE _ (by omega) HF.out
/-- A text after its length. -/
def txt (s : List UInt8) : List UInt8 := Oct.le 2 s.length ++ s
/-- A number of a description: its value, its width, its greatest value. -/
def dnums (m : Mg) : List (Int × Nat × Int) := [(m.st, 2, 65534), (m.sd, 4, 4294967294), (m.s0, 1, 232), (m.s1, 4, 2147483647), (m.s2, 8, 1099511627776), (m.sm, 4, 3892314623), (m.sat, 8, 1099511627776), (m.smt, 8, 1099511627776), (m.sl, 8, 9007199254740991)]
/-- Its bytes: all of them 255 for -1. -/
def knum (x : Int × Nat × Int) : List UInt8 := if x.1 = -1 then List.replicate x.2.1 255 else Oct.le x.2.1 x.1.toNat
/-- The four texts of a description. -/
def dtxts (m : Mg) : List (List UInt8) := [m.sn, m.su, m.sg, m.smu]
/-- The bytes of a description without their number. -/
def dirc (m : Mg) : List UInt8 := (dnums m).flatMap knum ++ (dtxts m).flatMap txt
/-- The bytes of a description. -/
def dirb (m : Mg) : List UInt8 := txt (dirc m)
/-- Valid lists of names. -/
def NamesOk (ns : List (List UInt8)) : Prop := ns.length ≤ 16 ∧ ∀ s ∈ ns, s = [46, 46] ∨ NameOk s
def Within (n b : Int) : Prop := n = -1 ∨ (0 ≤ n ∧ bits .andNot .i64 n b = 0)
def DirOk (m : Mg) : Prop := (∀ x ∈ dnums m, -1 ≤ x.1 ∧ x.1 ≤ x.2.2) ∧ (Within m.s0 232 ∧ Within m.sm 3892314623) ∧ (m.sn = [] ∨ m.sn = [47] ∨ NameOk m.sn) ∧ (m.su.length ≤ 64 ∧ m.sg.length ≤ 64 ∧ m.smu.length ≤ 64)
def QidOk (a b c : Int) : Prop := (0 ≤ a ∧ bits .andNot .i64 a 232 = 0) ∧ (0 ≤ b ∧ b ≤ 2147483647) ∧ (0 ≤ c ∧ c ≤ 1099511627776)
/-- A message without its lists. -/
def Mg.bare (m : Mg) : Mg := { m with names := .slice none 0 0, qids := .slice none 0 0 }
/-- The kinds of requests (but for the flush). -/
def IsReq (k : Int) : Prop := k = 100 ∨ k = 102 ∨ k = 104 ∨ k = 110 ∨ k = 112 ∨ k = 114 ∨ k = 116 ∨ k = 118 ∨ k = 120 ∨ k = 122 ∨ k = 124 ∨ k = 126 ∨ k = 128 ∨ k = 130
/-- The letters of their fields. -/
def lay (k : Int) : List UInt8 :=
 if k = 100 then [109, 118]
 else if k = 102 then [97, 117, 120]
 else if k = 104 then [102, 97, 117, 120]
 else if k = 110 then [102, 110, 119]
 else if k = 112 then [102, 77]
 else if k = 114 then [102, 78, 112, 77]
 else if k = 116 then [102, 79, 99]
 else if k = 118 then [102, 79, 100]
 else if k = 120 then [102]
 else if k = 122 then [102]
 else if k = 124 then [102]
 else if k = 126 then [102, 83]
 else if k = 128 then [102, 108, 116]
 else if k = 130 then [115]
 else []
/-- What a kind uses of a message. -/
def onl (m : Mg) : Mg :=
 if m.kind = 100 then { mg0 with kind := 100, tag := m.tag, msize := m.msize, version := m.version }
 else if m.kind = 102 then { mg0 with kind := 102, tag := m.tag, authFid := m.authFid, user := m.user, attach := m.attach }
 else if m.kind = 104 then { mg0 with kind := 104, tag := m.tag, fid := m.fid, authFid := m.authFid, user := m.user, attach := m.attach }
 else if m.kind = 110 then { mg0 with kind := 110, tag := m.tag, fid := m.fid, newFid := m.newFid, names := m.names }
 else if m.kind = 112 then { mg0 with kind := 112, tag := m.tag, fid := m.fid, mode := m.mode }
 else if m.kind = 114 then { mg0 with kind := 114, tag := m.tag, fid := m.fid, name := m.name, perm := m.perm, mode := m.mode }
 else if m.kind = 116 then { mg0 with kind := 116, tag := m.tag, fid := m.fid, offset := m.offset, count := m.count }
 else if m.kind = 118 then { mg0 with kind := 118, tag := m.tag, fid := m.fid, offset := m.offset, data := m.data }
 else if m.kind = 120 then { mg0 with kind := 120, tag := m.tag, fid := m.fid }
 else if m.kind = 122 then { mg0 with kind := 122, tag := m.tag, fid := m.fid }
 else if m.kind = 124 then { mg0 with kind := 124, tag := m.tag, fid := m.fid }
 else if m.kind = 126 then { mg0 with kind := 126, tag := m.tag, fid := m.fid, st := m.st, sd := m.sd, s0 := m.s0, s1 := m.s1, s2 := m.s2, sm := m.sm, sat := m.sat, smt := m.smt, sl := m.sl, sn := m.sn, su := m.su, sg := m.sg, smu := m.smu }
 else if m.kind = 128 then { mg0 with kind := 128, tag := m.tag, fid := m.fid, lease := m.lease, term := m.term }
 else if m.kind = 130 then { mg0 with kind := 130, tag := m.tag, session := m.session }
 else mg0
/-- The letters. -/
def IsLet (c : UInt8) : Prop := c = 77 ∨ c = 78 ∨ c = 79 ∨ c = 83 ∨ c = 97 ∨ c = 99 ∨ c = 100 ∨ c = 102 ∨ c = 108 ∨ c = 109 ∨ c = 110 ∨ c = 112 ∨ c = 115 ∨ c = 116 ∨ c = 117 ∨ c = 118 ∨ c = 119 ∨ c = 120
/-- The bytes of a field. -/
def enc (m : Mg) (ns : List (List UInt8)) (c : UInt8) : List UInt8 :=
 if c = 77 then Oct.le 1 m.mode.toNat
 else if c = 78 then txt m.name
 else if c = 79 then Oct.le 8 m.offset.toNat
 else if c = 83 then Oct.le 2 (dirb m).length ++ dirb m
 else if c = 97 then Oct.le 4 m.authFid.toNat
 else if c = 99 then Oct.le 4 m.count.toNat
 else if c = 100 then Oct.le 4 m.data.length ++ m.data
 else if c = 102 then Oct.le 4 m.fid.toNat
 else if c = 108 then Oct.le 1 m.lease.toNat
 else if c = 109 then Oct.le 4 m.msize.toNat
 else if c = 110 then Oct.le 4 m.newFid.toNat
 else if c = 112 then Oct.le 4 m.perm.toNat
 else if c = 115 then txt m.session
 else if c = 116 then Oct.le 4 m.term.toNat
 else if c = 117 then txt m.user
 else if c = 118 then txt m.version
 else if c = 119 then Oct.le 2 ns.length ++ ns.flatMap txt
 else if c = 120 then txt m.attach
 else []
/-- When it can be written. -/
def LetOk (m : Mg) (ns : List (List UInt8)) (c : UInt8) : Prop :=
 if c = 77 then 0 ≤ m.mode ∧ m.mode < 256
 else if c = 78 then m.name.length ≤ 10000
 else if c = 79 then 0 ≤ m.offset ∧ m.offset < 9223372036854775808
 else if c = 83 then DirOk m
 else if c = 97 then 0 ≤ m.authFid ∧ m.authFid < 4294967296
 else if c = 99 then 0 ≤ m.count ∧ m.count < 4294967296
 else if c = 100 then m.data.length ≤ 10000
 else if c = 102 then 0 ≤ m.fid ∧ m.fid < 4294967296
 else if c = 108 then 0 ≤ m.lease ∧ m.lease < 256
 else if c = 109 then 0 ≤ m.msize ∧ m.msize < 4294967296
 else if c = 110 then 0 ≤ m.newFid ∧ m.newFid < 4294967296
 else if c = 112 then 0 ≤ m.perm ∧ m.perm < 4294967296
 else if c = 115 then m.session.length ≤ 10000
 else if c = 116 then 0 ≤ m.term ∧ m.term < 4294967296
 else if c = 117 then m.user.length ≤ 10000
 else if c = 118 then m.version.length ≤ 10000
 else if c = 119 then ns.length ≤ 16 ∧ ∀ s ∈ ns, s.length ≤ 1000
 else if c = 120 then m.attach.length ≤ 10000
 else True
/-- A message with a field of another one (but for the names). -/
def setfb (m : Mg) (x : Mg) (c : UInt8) : Mg :=
 if c = 77 then { x with mode := m.mode }
 else if c = 78 then { x with name := m.name }
 else if c = 79 then { x with offset := m.offset }
 else if c = 83 then { x with st := m.st, sd := m.sd, s0 := m.s0, s1 := m.s1, s2 := m.s2, sm := m.sm, sat := m.sat, smt := m.smt, sl := m.sl, sn := m.sn, su := m.su, sg := m.sg, smu := m.smu }
 else if c = 97 then { x with authFid := m.authFid }
 else if c = 99 then { x with count := m.count }
 else if c = 100 then { x with data := m.data }
 else if c = 102 then { x with fid := m.fid }
 else if c = 108 then { x with lease := m.lease }
 else if c = 109 then { x with msize := m.msize }
 else if c = 110 then { x with newFid := m.newFid }
 else if c = 112 then { x with perm := m.perm }
 else if c = 115 then { x with session := m.session }
 else if c = 116 then { x with term := m.term }
 else if c = 117 then { x with user := m.user }
 else if c = 118 then { x with version := m.version }
 else if c = 120 then { x with attach := m.attach }
 else x
/-- Valid fields. -/
def Flds (m : Mg) (ns : List (List UInt8)) : Prop :=
 if m.kind = 100 then (0 ≤ m.msize ∧ m.msize ≤ 4294967295) ∧ m.version.length ≤ 64 ∧ m.session.length ≤ 64
 else if m.kind = 102 then (0 ≤ m.authFid ∧ m.authFid ≤ 4294967294) ∧ m.user.length ≤ 32 ∧ m.attach.length ≤ 1024
 else if m.kind = 104 then (0 ≤ m.fid ∧ m.fid ≤ 4294967294) ∧ (0 ≤ m.authFid ∧ m.authFid ≤ 4294967295) ∧ m.user.length ≤ 32 ∧ m.attach.length ≤ 1024
 else if m.kind = 110 then (0 ≤ m.fid ∧ m.fid ≤ 4294967294) ∧ (0 ≤ m.newFid ∧ m.newFid ≤ 4294967294) ∧ NamesOk ns
 else if m.kind = 112 then (0 ≤ m.fid ∧ m.fid ≤ 4294967294) ∧ (0 ≤ m.mode ∧ m.mode ≤ 255)
 else if m.kind = 114 then (0 ≤ m.fid ∧ m.fid ≤ 4294967294) ∧ NameOk m.name ∧ (0 ≤ m.perm ∧ m.perm ≤ 4294967295) ∧ (0 ≤ m.mode ∧ m.mode ≤ 255)
 else if m.kind = 116 then (0 ≤ m.fid ∧ m.fid ≤ 4294967294) ∧ (0 ≤ m.offset ∧ m.offset ≤ 9007199254740991) ∧ (0 ≤ m.count ∧ m.count ≤ 8192) ∧ m.data.length ≤ 8168
 else if m.kind = 118 then (0 ≤ m.fid ∧ m.fid ≤ 4294967294) ∧ (0 ≤ m.offset ∧ m.offset ≤ 9007199254740991) ∧ (0 ≤ m.count ∧ m.count ≤ 8192) ∧ m.data.length ≤ 8168
 else if m.kind = 120 then (0 ≤ m.fid ∧ m.fid ≤ 4294967294)
 else if m.kind = 122 then (0 ≤ m.fid ∧ m.fid ≤ 4294967294)
 else if m.kind = 124 then (0 ≤ m.fid ∧ m.fid ≤ 4294967294)
 else if m.kind = 126 then (0 ≤ m.fid ∧ m.fid ≤ 4294967294) ∧ DirOk m
 else if m.kind = 128 then (0 ≤ m.fid ∧ m.fid ≤ 4294967294) ∧ QidOk m.q0 m.q1 m.q2 ∧ (0 ≤ m.lease ∧ m.lease ≤ 2) ∧ (0 ≤ m.term ∧ m.term ≤ 1048576)
 else if m.kind = 130 then m.session.length ≤ 64
 else True
def TagOk (m : Mg) : Prop := if m.kind = 100 then m.tag = 65535 else 0 ≤ m.tag ∧ m.tag ≤ 65534
/-- Two messages are equal. -/
def Eqv (a b : Mg) (na nb : List (List UInt8)) (qa qb : List (Int × Int × Int)) : Prop := a.bare = b.bare ∧ na = nb ∧ qa = qb
/-- Valid requests. -/
def Chk (m : Mg) (ns : List (List UInt8)) (qs : List (Int × Int × Int)) : Prop := TagOk m ∧ Eqv (onl m) m (if m.kind = 110 then ns else []) ns [] qs ∧ Flds m ns
/-- The bytes of a request without their number. -/
def reqc (m : Mg) (ns : List (List UInt8)) : List UInt8 := Oct.le 1 m.kind.toNat ++ Oct.le 2 m.tag.toNat ++ (lay m.kind).flatMap (enc m ns)
/-- The bytes of a request. -/
def reqb (m : Mg) (ns : List (List UInt8)) : List UInt8 := Oct.le 4 ((reqc m ns).length + 4) ++ reqc m ns
theorem lay_set (m : Mg) (h : IsReq m.kind) : (lay m.kind).foldl (setfb m) { mg0 with kind := m.kind, tag := m.tag } = (onl m).bare := by
 rcases h with h | h | h | h | h | h | h | h | h | h | h | h | h | h
 all_goals simp [lay, onl, setfb, Mg.bare, h]
 all_goals exact ⟨rfl, rfl⟩
theorem lay_let (k : Int) (h : IsReq k) : ∀ c ∈ lay k, IsLet c := by
 rcases h with rfl | rfl | rfl | rfl | rfl | rfl | rfl | rfl | rfl | rfl | rfl | rfl | rfl | rfl
 all_goals simp [lay, IsLet]
theorem names_w {ns : List (List UInt8)} (h : NamesOk ns) : ns.length ≤ 16 ∧ ∀ s ∈ ns, s.length ≤ 1000 := by
 refine ⟨h.1, fun s hs => ?_⟩
 rcases h.2 s hs with rfl | h
 ·decide
 ·have := h.1.2.2.2; omega
theorem lay_ok (m : Mg) (ns : List (List UInt8)) (h : IsReq m.kind) (hf : Flds m ns) : ∀ c ∈ lay m.kind, LetOk m ns c := by
 rcases h with h | h | h | h | h | h | h | h | h | h | h | h | h | h
 all_goals
  simp only [Flds, h] at hf
  simp only [lay, h]
  simp at hf
  intro c hc
  simp at hc
 ·rcases hc with rfl | rfl <;> simp [LetOk] <;> omega
 ·rcases hc with rfl | rfl | rfl <;> simp [LetOk] <;> omega
 ·rcases hc with rfl | rfl | rfl | rfl <;> simp [LetOk] <;> omega
 ·rcases hc with rfl | rfl | rfl
  ·simp [LetOk]; omega
  ·simp [LetOk]; omega
  ·simpa [LetOk] using names_w hf.2.2
 ·rcases hc with rfl | rfl <;> simp [LetOk] <;> omega
 ·have := hf.2.1.1.2.2.2
  rcases hc with rfl | rfl | rfl | rfl <;> simp [LetOk] <;> omega
 ·rcases hc with rfl | rfl | rfl <;> simp [LetOk] <;> omega
 ·rcases hc with rfl | rfl | rfl <;> simp [LetOk] <;> omega
 ·rcases hc with rfl <;> simp [LetOk] <;> omega
 ·rcases hc with rfl <;> simp [LetOk] <;> omega
 ·rcases hc with rfl <;> simp [LetOk] <;> omega
 ·rcases hc with rfl | rfl
  ·simp [LetOk]; omega
  ·simpa [LetOk] using hf.2
 ·rcases hc with rfl | rfl | rfl <;> simp [LetOk] <;> omega
 ·rcases hc with rfl <;> simp [LetOk] <;> omega
/-- What is read back is the request. -/
theorem chk_back (m : Mg) (ns : List (List UInt8)) (qs : List (Int × Int × Int)) (h : IsReq m.kind) (hc : Chk m ns qs) : (lay m.kind).foldl (setfb m) { mg0 with kind := m.kind, tag := m.tag } = m.bare ∧ (119 ∉ lay m.kind → ns = []) ∧ qs = [] := by
 obtain ⟨_, ⟨h1, h2, h3⟩, _⟩ := hc
 refine ⟨(lay_set m h).trans h1, fun hn => ?_, h3.symm⟩
 by_cases hk : m.kind = 110
 ·exact absurd (by simp [lay, hk]) hn
 ·rw [if_neg hk] at h2; exact h2.symm
/-- The other message has the same. -/
theorem onl_bare (a b : Mg) (h : a.bare = b.bare) : (onl a).bare = (onl b).bare := by
 have e : ∀ m : Mg, (onl m).bare = (onl m.bare).bare := by
  intro m
  by_cases h0 : IsReq m.kind
  ·rw [← lay_set m h0, ← lay_set m.bare h0]
   rcases h0 with h | h | h | h | h | h | h | h | h | h | h | h | h | h
   all_goals simp [lay, setfb, Mg.bare, h]
  ·have h1 : onl m = mg0 := by
    unfold IsReq at h0
    simp only [not_or] at h0
    simp [onl, h0]
   have h2 : onl m.bare = mg0 := by
    unfold IsReq at h0
    simp only [not_or] at h0
    simp [onl, h0, Mg.bare]
   rw [h1, h2]
 rw [e a, e b, h]
theorem chk_same (a b : Mg) (ns : List (List UInt8)) (qs : List (Int × Int × Int)) (h : a.bare = b.bare) (hc : Chk a ns qs) : Chk b ns qs := by
 have hk : a.kind = b.kind := show a.bare.kind = b.bare.kind from by rw [h]
 have ht : a.tag = b.tag := show a.bare.tag = b.bare.tag from by rw [h]
 have hflds : Flds a ns = Flds b ns := by
  have e : ∀ m : Mg, Flds m ns = Flds m.bare ns := fun m => rfl
  rw [e a, e b, h]
 obtain ⟨h1, ⟨h2, h3, h4⟩, h5⟩ := hc
 refine ⟨?_, ⟨?_, ?_, h4⟩, hflds ▸ h5⟩
 ·unfold TagOk at *; rw [← hk, ← ht]; exact h1
 ·rw [← onl_bare a b h, h2, h]
 ·rw [← hk]; exact h3
end Go.Proofs.YtfibaopngpfmjaaGreatDoor
