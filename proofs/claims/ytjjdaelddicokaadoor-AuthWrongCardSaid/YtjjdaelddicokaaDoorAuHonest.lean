/- A client and a server that talk: what a run leaves, on lists; where both have the same key, and where the keys differ. Conditions: those that each fact names. -/
import Derived.Test.YtjjdaelddicokaaDoorAuLawKit
import Derived.Test.YtjjdaelddicokaaDoorAuEqual
set_option linter.unusedVariables false
set_option linter.unusedSimpArgs false
namespace Go.Proofs.YtjjdaelddicokaaDoor
open Au (Att Cnv)
namespace Au
/-- A key of a user and a secret. -/
def lk (u s : List UInt8) : List Att := [⟨[117, 115, 101, 114], u, false⟩, ⟨[33, 115, 101, 99, 114, 101, 116], s, false⟩]
theorem lk_user (u s : List UInt8) : user (lk u s) = u := rfl
theorem lk_sec (u s : List UInt8) : sec (lk u s) = s := rfl
theorem run_ab {k : Nat} {n : Int} {a b a2 b2 : Cnv} {t : List UInt8} {e f : Int} (h : a.phase = 1 ∧ b.phase = 2) (hr : read a = (a2, t, e)) (hw : write b t = (b2, f)) : run (k + 1) n a b = run k (n + 1) a2 b2 := by
  rw [run, if_pos h, hr, hw]
theorem run_ba {k : Nat} {n : Int} {a b a2 b2 : Cnv} {t : List UInt8} {e f : Int} (h : b.phase = 1 ∧ a.phase = 2) (hr : read b = (b2, t, e)) (hw : write a t = (a2, f)) : run (k + 1) n a b = run k (n + 1) a2 b2 := by
  rw [run, if_neg (by omega), if_pos h, hr, hw]
theorem run_stop {k : Nat} {n : Int} {a b : Cnv} (pa pb : Int) (ha : a.phase = pa) (hb : b.phase = pb) (h0 : ¬ (pa = 1 ∧ pb = 2)) (h02 : ¬ (pb = 1 ∧ pa = 2)) : run k n a b = (a, b, n) := by
  have h : ¬ (a.phase = 1 ∧ b.phase = 2) := by rw [ha, hb]; exact h0
  have h2 : ¬ (b.phase = 1 ∧ a.phase = 2) := by rw [ha, hb]; exact h02
  cases k with
  | zero => rfl
  | succ k => rw [run, if_neg h, if_neg h2]
theorem n1 : ¬ sMutual = sChal := by decide
theorem n2 : ¬ sPlain = sChal := by decide
theorem n3 : ¬ sPlain = sMutual := by decide
theorem n4 : ¬ sChal = sMutual := by decide
theorem n5 : ¬ sChal = sPlain := by decide
theorem n6 : ¬ sMutual = sPlain := by decide
/-- A conversation, its fields in a row. -/
abbrev cv (p : List UInt8) (r ph st : Int) (K : List Att) (own peer us : List UInt8) (er : Int) : Cnv := ⟨0, p, r, ph, st, K, own, peer, us, er⟩
theorem read_is (p : List UInt8) (r st : Int) (K : List Att) (own peer us : List UInt8) (er : Int) (t : List UInt8) (ph : Int) (u2 : List UInt8) (ht : msg (cv p r 1 st K own peer us er) st = t) (hp : (if st + 1 = len p then 3 else if sends p r (st + 1) = true then (1 : Int) else 2) = ph) (hu : (if ph = 3 then user K else []) = u2) :
    read (cv p r 1 st K own peer us er) = (cv p r ph (st + 1) K own peer u2 er, t, 0) := by
  subst ht hp hu
  rfl
theorem write_ok (p : List UInt8) (r st : Int) (K : List Att) (own peer us : List UInt8) (er : Int) (s peer2 : List UInt8) (ph : Int) (u2 : List UInt8) (hl : learn (cv p r 2 st K own peer us er) s = cv p r 2 st K own peer2 us er) (h32 : 0 ≤ carries (cv p r 2 st K own peer us er) st → peer2.length = 32) (hm : msg (cv p r 2 st K own peer2 us er) st = s) (hp : (if st + 1 = len p then 3 else if sends p r (st + 1) = true then (1 : Int) else 2) = ph) (hu : (if ph = 3 then user K else []) = u2) :
    write (cv p r 2 st K own peer us er) s = (cv p r ph (st + 1) K own peer2 u2 er, 0) := by
  unfold write
  rw [if_pos rfl, hl, if_neg ?_]
  · subst hp hu; rfl
  · intro h
    rcases h with ⟨h1, h2⟩ | h
    · exact h2 (h32 h1)
    · exact h hm
theorem write_no (p : List UInt8) (r st : Int) (K : List Att) (own peer us : List UInt8) (er : Int) (s peer2 : List UInt8) (hl : learn (cv p r 2 st K own peer us er) s = cv p r 2 st K own peer2 us er) (hm : (0 ≤ carries (cv p r 2 st K own peer us er) st ∧ peer2.length ≠ 32) ∨ msg (cv p r 2 st K own peer2 us er) st ≠ s) :
    write (cv p r 2 st K own peer us er) s = (cv p r 4 st K own peer us 28, 28) := by
  unfold write
  rw [if_pos rfl, hl, if_pos hm]
theorem learn_off (c : Cnv) (s : List UInt8) (h : carries c c.step < 0) : learn c s = c := by
  unfold learn; rw [if_neg (by omega)]
theorem learn_at (p : List UInt8) (r ph st : Int) (K : List Att) (own peer us : List UInt8) (er : Int) (s : List UInt8) (k : Nat) (h : carries (cv p r ph st K own peer us er) st = k) (hs : k + 32 ≤ s.length) :
    learn (cv p r ph st K own peer us er) s = cv p r ph st K own ((s.drop k).take 32) us er := by
  unfold learn
  rw [if_pos (by rw [h]; omega), h]
  rfl
theorem learn_at2 (p : List UInt8) (r ph st : Int) (K : List Att) (own peer us : List UInt8) (er : Int) (s : List UInt8) (k : Nat) (h : carries (cv p r ph st K own peer us er) st = k) (hs : ¬ k + 32 ≤ s.length) :
    learn (cv p r ph st K own peer us er) s = cv p r ph st K own peer us er := by
  unfold learn
  rw [if_neg (by rw [h]; omega)]
/-! Counted texts. -/
theorem put_is {s : List UInt8} (h : s.length ≤ 65535) : put s = Oct.le 2 s.length ++ s := by
  unfold put Oct.ptS; rw [if_neg (by omega)]
theorem put_inj {u v x y : List UInt8} (hu : u.length ≤ 65535) (hv : v.length ≤ 65535) (h : put u ++ x = put v ++ y) : u = v ∧ x = y := by
  rw [put_is hu, put_is hv, List.append_assoc, List.append_assoc] at h
  obtain ⟨h1, h2⟩ := List.append_inj h (by rw [Oct.le_length, Oct.le_length])
  have h3 := congrArg Oct.leVal h1
  rw [Oct.leVal_le, Oct.leVal_le] at h3
  have hl : u.length = v.length := by omega
  exact List.append_inj h2 hl
theorem put_len {s : List UInt8} (h : s.length ≤ 65535) : (put s).length = s.length + 2 := by
  rw [put_is h, List.length_append, Oct.le_length]; omega
/-! The three protocols. -/
theorem plain_msg0 (r ph : Int) (u s own peer us : List UInt8) (er : Int) : msg (cv sPlain r ph 0 (lk u s) own peer us er) 0 = put u ++ put s := by
  unfold msg msgPlain; rw [if_neg n2, if_neg n3, if_pos rfl]; rfl
theorem plain_msg1 (r ph : Int) (K : List Att) (own peer us : List UInt8) (er : Int) : msg (cv sPlain r ph 1 K own peer us er) 1 = sOk := by
  unfold msg msgPlain; rw [if_neg n2, if_neg n3, if_neg (by decide)]
theorem plain_carries (r ph st n : Int) (K : List Att) (own peer us : List UInt8) (er : Int) : carries (cv sPlain r ph st K own peer us er) n = -1 := by
  unfold carries
  rw [if_neg (fun h => by rcases h with h | h; exact n2 h.1; exact n3 h.1), if_neg (fun h => n3 h.1)]
theorem plain_c0 (u s cn : List UInt8) : read (cv sPlain 1 1 0 (lk u s) cn [] [] 0) = (cv sPlain 1 2 1 (lk u s) cn [] [] 0, put u ++ put s, 0) :=
  read_is _ _ _ _ _ _ _ _ _ _ _ (plain_msg0 _ _ _ _ _ _ _ _) (by decide) (by rfl)
theorem plain_s0 (u s sn : List UInt8) : write (cv sPlain 2 2 0 (lk u s) sn [] [] 0) (put u ++ put s) = (cv sPlain 2 1 1 (lk u s) sn [] [] 0, 0) :=
  write_ok _ _ _ _ _ _ _ _ _ _ _ _ (learn_off _ _ (by rw [plain_carries]; decide)) (fun h => by rw [plain_carries] at h; omega) (plain_msg0 _ _ _ _ _ _ _ _) (by decide) (by rfl)
theorem plain_s0n (u s u2 s2 sn : List UInt8) (hu : u.length ≤ 65535) (hu2 : u2.length ≤ 65535) (hs : s.length ≤ 65535) (hs2 : s2.length ≤ 65535) (h : ¬ (u = u2 ∧ s = s2)) : write (cv sPlain 2 2 0 (lk u2 s2) sn [] [] 0) (put u ++ put s) = (cv sPlain 2 4 0 (lk u2 s2) sn [] [] 28, 28) :=
  write_no _ _ _ _ _ _ _ _ _ [] (learn_off _ _ (by rw [plain_carries]; decide)) (.inr (by
    rw [plain_msg0]
    intro e
    obtain ⟨e1, e2⟩ := put_inj hu2 hu e
    have e3 := put_inj (x := []) (y := []) hs2 hs (by rw [List.append_nil, List.append_nil]; exact e2)
    exact h ⟨e1.symm, e3.1.symm⟩))
theorem plain_s1 (K : List Att) (sn : List UInt8) : read (cv sPlain 2 1 1 K sn [] [] 0) = (cv sPlain 2 3 2 K sn [] (user K) 0, sOk, 0) :=
  read_is _ _ _ _ _ _ _ _ _ _ _ (plain_msg1 _ _ _ _ _ _ _) (by decide) (by rfl)
theorem plain_c1 (K : List Att) (cn : List UInt8) : write (cv sPlain 1 2 1 K cn [] [] 0) sOk = (cv sPlain 1 3 2 K cn [] (user K) 0, 0) :=
  write_ok _ _ _ _ _ _ _ _ _ _ _ _ (learn_off _ _ (by rw [plain_carries]; decide)) (fun h => by rw [plain_carries] at h; omega) (plain_msg1 _ _ _ _ _ _ _) (by decide) (by rfl)
theorem plain_good (u s cn sn : List UInt8) : run 16 0 (cv sPlain 1 1 0 (lk u s) cn [] [] 0) (cv sPlain 2 2 0 (lk u s) sn [] [] 0) = (cv sPlain 1 3 2 (lk u s) cn [] u 0, cv sPlain 2 3 2 (lk u s) sn [] u 0, 2) := by
  rw [run_ab ⟨rfl, rfl⟩ (plain_c0 u s cn) (plain_s0 u s sn), run_ba ⟨rfl, rfl⟩ (plain_s1 _ sn) (plain_c1 _ cn), run_stop 3 3 rfl rfl (by decide) (by decide)]
  rfl
theorem plain_good2 (u s cn sn : List UInt8) : run 16 0 (cv sPlain 2 2 0 (lk u s) sn [] [] 0) (cv sPlain 1 1 0 (lk u s) cn [] [] 0) = (cv sPlain 2 3 2 (lk u s) sn [] u 0, cv sPlain 1 3 2 (lk u s) cn [] u 0, 2) := by
  rw [run_ba ⟨rfl, rfl⟩ (plain_c0 u s cn) (plain_s0 u s sn), run_ab ⟨rfl, rfl⟩ (plain_s1 _ sn) (plain_c1 _ cn), run_stop 3 3 rfl rfl (by decide) (by decide)]
  rfl
theorem plain_bad (u s u2 s2 cn sn : List UInt8) (hu : u.length ≤ 65535) (hu2 : u2.length ≤ 65535) (hs : s.length ≤ 65535) (hs2 : s2.length ≤ 65535) (h : ¬ (u = u2 ∧ s = s2)) : run 16 0 (cv sPlain 1 1 0 (lk u s) cn [] [] 0) (cv sPlain 2 2 0 (lk u2 s2) sn [] [] 0) = (cv sPlain 1 2 1 (lk u s) cn [] [] 0, cv sPlain 2 4 0 (lk u2 s2) sn [] [] 28, 1) := by
  rw [run_ab ⟨rfl, rfl⟩ (plain_c0 u s cn) (plain_s0n u s u2 s2 sn hu hu2 hs hs2 h), run_stop 2 4 rfl rfl (by decide) (by decide)]
  rfl
/-! chal -/
theorem chal_carries0 (r ph st : Int) (K : List Att) (own peer us : List UInt8) (er : Int) : carries (cv sChal r ph st K own peer us er) 0 = 0 := by
  unfold carries; rw [if_pos (.inl ⟨rfl, rfl⟩)]
theorem chal_carries1 (r ph st n : Int) (h : n ≠ 0) (K : List Att) (own peer us : List UInt8) (er : Int) : carries (cv sChal r ph st K own peer us er) n = -1 := by
  unfold carries
  rw [if_neg (fun h => by rcases h with h2 | h2; exact h h2.2; exact n4 h2.1), if_neg (fun h2 => n4 h2.1)]
theorem chal_msg0 (ph st : Int) (K : List Att) (own peer us : List UInt8) (er : Int) : msg (cv sChal 2 ph st K own peer us er) 0 = own ∧ msg (cv sChal 1 ph st K own peer us er) 0 = peer := ⟨rfl, rfl⟩
theorem chal_msg1 (ph st : Int) (u s own peer us : List UInt8) (er : Int) : msg (cv sChal 2 ph st (lk u s) own peer us er) 1 = put u ++ Sha.mac s own ∧ msg (cv sChal 1 ph st (lk u s) own peer us er) 1 = put u ++ Sha.mac s peer := ⟨rfl, rfl⟩
theorem chal_msg2 (r ph st : Int) (K : List Att) (own peer us : List UInt8) (er : Int) : msg (cv sChal r ph st K own peer us er) 2 = sOk := rfl
theorem chal_s0 (K : List Att) (sn : List UInt8) : read (cv sChal 2 1 0 K sn [] [] 0) = (cv sChal 2 2 1 K sn [] [] 0, sn, 0) :=
  read_is _ _ _ _ _ _ _ _ _ _ _ (chal_msg0 _ _ _ _ _ _ _).1 (by decide) (by rfl)
theorem chal_c0 (K : List Att) (cn sn : List UInt8) (h : sn.length = 32) : write (cv sChal 1 2 0 K cn [] [] 0) sn = (cv sChal 1 1 1 K cn sn [] 0, 0) :=
  write_ok _ _ _ _ _ _ _ _ _ _ _ _ (by rw [learn_at _ _ _ _ _ _ _ _ _ _ 0 (chal_carries0 _ _ _ _ _ _ _ _) (by omega), List.drop_zero, List.take_of_length_le (by omega)]) (fun _ => h) (chal_msg0 _ _ _ _ _ _ _).2 (by decide) (by rfl)
theorem chal_c1 (u s cn sn : List UInt8) : read (cv sChal 1 1 1 (lk u s) cn sn [] 0) = (cv sChal 1 2 2 (lk u s) cn sn [] 0, put u ++ Sha.mac s sn, 0) :=
  read_is _ _ _ _ _ _ _ _ _ _ _ (chal_msg1 _ _ _ _ _ _ _ _).2 (by decide) (by rfl)
theorem chal_s1 (u s sn : List UInt8) : write (cv sChal 2 2 1 (lk u s) sn [] [] 0) (put u ++ Sha.mac s sn) = (cv sChal 2 1 2 (lk u s) sn [] [] 0, 0) :=
  write_ok _ _ _ _ _ _ _ _ _ _ _ _ (learn_off _ _ (by rw [chal_carries1 _ _ _ _ (show (1 : Int) ≠ 0 by decide)]; decide)) (fun h => by rw [chal_carries1 _ _ _ _ (show (1 : Int) ≠ 0 by decide)] at h; omega) (chal_msg1 _ _ _ _ _ _ _ _).1 (by decide) (by rfl)
theorem chal_s1n (u s u2 s2 sn : List UInt8) (hu : u.length ≤ 65535) (hu2 : u2.length ≤ 65535) (h : ¬ (u = u2 ∧ Sha.mac s sn = Sha.mac s2 sn)) : write (cv sChal 2 2 1 (lk u2 s2) sn [] [] 0) (put u ++ Sha.mac s sn) = (cv sChal 2 4 1 (lk u2 s2) sn [] [] 28, 28) :=
  write_no _ _ _ _ _ _ _ _ _ [] (learn_off _ _ (by rw [chal_carries1 _ _ _ _ (show (1 : Int) ≠ 0 by decide)]; decide)) (.inr (by
    rw [(chal_msg1 _ _ _ _ _ _ _ _).1]
    intro e
    obtain ⟨e1, e2⟩ := put_inj hu2 hu e
    exact h ⟨e1.symm, e2.symm⟩))
theorem chal_s2 (K : List Att) (sn : List UInt8) : read (cv sChal 2 1 2 K sn [] [] 0) = (cv sChal 2 3 3 K sn [] (user K) 0, sOk, 0) :=
  read_is _ _ _ _ _ _ _ _ _ _ _ (chal_msg2 _ _ _ _ _ _ _ _) (by decide) (by rfl)
theorem chal_c2 (K : List Att) (cn sn : List UInt8) : write (cv sChal 1 2 2 K cn sn [] 0) sOk = (cv sChal 1 3 3 K cn sn (user K) 0, 0) :=
  write_ok _ _ _ _ _ _ _ _ _ _ _ _ (learn_off _ _ (by rw [chal_carries1 _ _ _ _ (show (2 : Int) ≠ 0 by decide)]; decide)) (fun h => by rw [chal_carries1 _ _ _ _ (show (2 : Int) ≠ 0 by decide)] at h; omega) (chal_msg2 _ _ _ _ _ _ _ _) (by decide) (by rfl)
theorem chal_good (u s cn sn : List UInt8) (h : sn.length = 32) : run 16 0 (cv sChal 1 2 0 (lk u s) cn [] [] 0) (cv sChal 2 1 0 (lk u s) sn [] [] 0) = (cv sChal 1 3 3 (lk u s) cn sn u 0, cv sChal 2 3 3 (lk u s) sn [] u 0, 3) := by
  rw [run_ba ⟨rfl, rfl⟩ (chal_s0 _ sn) (chal_c0 _ cn sn h), run_ab ⟨rfl, rfl⟩ (chal_c1 u s cn sn) (chal_s1 u s sn), run_ba ⟨rfl, rfl⟩ (chal_s2 _ sn) (chal_c2 _ cn sn), run_stop 3 3 rfl rfl (by decide) (by decide)]
  rfl
theorem chal_good2 (u s cn sn : List UInt8) (h : sn.length = 32) : run 16 0 (cv sChal 2 1 0 (lk u s) sn [] [] 0) (cv sChal 1 2 0 (lk u s) cn [] [] 0) = (cv sChal 2 3 3 (lk u s) sn [] u 0, cv sChal 1 3 3 (lk u s) cn sn u 0, 3) := by
  rw [run_ab ⟨rfl, rfl⟩ (chal_s0 _ sn) (chal_c0 _ cn sn h), run_ba ⟨rfl, rfl⟩ (chal_c1 u s cn sn) (chal_s1 u s sn), run_ab ⟨rfl, rfl⟩ (chal_s2 _ sn) (chal_c2 _ cn sn), run_stop 3 3 rfl rfl (by decide) (by decide)]
  rfl
theorem chal_bad (u s u2 s2 cn sn : List UInt8) (h : sn.length = 32) (hu : u.length ≤ 65535) (hu2 : u2.length ≤ 65535) (hn : ¬ (u = u2 ∧ Sha.mac s sn = Sha.mac s2 sn)) : run 16 0 (cv sChal 1 2 0 (lk u s) cn [] [] 0) (cv sChal 2 1 0 (lk u2 s2) sn [] [] 0) = (cv sChal 1 2 2 (lk u s) cn sn [] 0, cv sChal 2 4 1 (lk u2 s2) sn [] [] 28, 2) := by
  rw [run_ba ⟨rfl, rfl⟩ (chal_s0 _ sn) (chal_c0 _ cn sn h), run_ab ⟨rfl, rfl⟩ (chal_c1 u s cn sn) (chal_s1n u s u2 s2 sn hu hu2 hn), run_stop 2 4 rfl rfl (by decide) (by decide)]
  rfl
/-! mutual -/
theorem mut_carries0 (r ph st : Int) (u s own peer us : List UInt8) (er : Int) : carries (cv sMutual r ph st (lk u s) own peer us er) 0 = ((put u).length : Int) := by
  unfold carries
  rw [if_neg (fun h => by rcases h with h | h; exact n1 h.1; exact absurd h.2 (by decide)), if_pos ⟨rfl, rfl⟩]
  rfl
theorem mut_carries1 (r ph st : Int) (K : List Att) (own peer us : List UInt8) (er : Int) : carries (cv sMutual r ph st K own peer us er) 1 = 0 := by
  unfold carries; rw [if_pos (.inr ⟨rfl, rfl⟩)]
theorem mut_carries2 (r ph st : Int) (K : List Att) (own peer us : List UInt8) (er : Int) : carries (cv sMutual r ph st K own peer us er) 2 = -1 := by
  unfold carries
  rw [if_neg (fun h => by rcases h with h | h; exact n1 h.1; exact absurd h.2 (by decide)), if_neg (fun h => absurd h.2 (by decide))]
theorem mut_msg0 (ph st : Int) (u s own peer us : List UInt8) (er : Int) : msg (cv sMutual 1 ph st (lk u s) own peer us er) 0 = put u ++ own ∧ msg (cv sMutual 2 ph st (lk u s) own peer us er) 0 = put u ++ peer := ⟨rfl, rfl⟩
theorem mut_msg1 (ph st : Int) (u s own peer us : List UInt8) (er : Int) : msg (cv sMutual 2 ph st (lk u s) own peer us er) 1 = own ++ Sha.mac s (sServer ++ peer ++ own) ∧ msg (cv sMutual 1 ph st (lk u s) own peer us er) 1 = peer ++ Sha.mac s (sServer ++ own ++ peer) := ⟨rfl, rfl⟩
theorem mut_msg2 (ph st : Int) (u s own peer us : List UInt8) (er : Int) : msg (cv sMutual 1 ph st (lk u s) own peer us er) 2 = Sha.mac s (sClient ++ own ++ peer) ∧ msg (cv sMutual 2 ph st (lk u s) own peer us er) 2 = Sha.mac s (sClient ++ peer ++ own) := ⟨rfl, rfl⟩
theorem mut_c0 (u s cn : List UInt8) : read (cv sMutual 1 1 0 (lk u s) cn [] [] 0) = (cv sMutual 1 2 1 (lk u s) cn [] [] 0, put u ++ cn, 0) :=
  read_is _ _ _ _ _ _ _ _ _ _ _ (mut_msg0 _ _ _ _ _ _ _ _).1 (by decide) (by rfl)
theorem mut_s0 (u s cn sn : List UInt8) (h : cn.length = 32) : write (cv sMutual 2 2 0 (lk u s) sn [] [] 0) (put u ++ cn) = (cv sMutual 2 1 1 (lk u s) sn cn [] 0, 0) :=
  write_ok _ _ _ _ _ _ _ _ _ _ _ _ (by rw [learn_at _ _ _ _ _ _ _ _ _ _ (put u).length (mut_carries0 _ _ _ _ _ _ _ _ _) (by rw [List.length_append]; omega), List.drop_left, List.take_of_length_le (by omega)]) (fun _ => h) (mut_msg0 _ _ _ _ _ _ _ _).2 (by decide) (by rfl)
theorem mut_s0n (u u2 s2 cn sn : List UInt8) (hu : u.length ≤ 65535) (hu2 : u2.length ≤ 65535) (h : u ≠ u2) : write (cv sMutual 2 2 0 (lk u2 s2) sn [] [] 0) (put u ++ cn) = (cv sMutual 2 4 0 (lk u2 s2) sn [] [] 28, 28) := by
  by_cases hl : (put u2).length + 32 ≤ (put u ++ cn).length
  · refine write_no _ _ _ _ _ _ _ _ _ _ (learn_at _ _ _ _ _ _ _ _ _ _ (put u2).length (mut_carries0 _ _ _ _ _ _ _ _ _) hl) (.inr ?_)
    rw [(mut_msg0 _ _ _ _ _ _ _ _).2]
    intro e
    exact h (put_inj hu2 hu e).1.symm
  · refine write_no _ _ _ _ _ _ _ _ _ [] (learn_at2 _ _ _ _ _ _ _ _ _ _ (put u2).length (mut_carries0 _ _ _ _ _ _ _ _ _) hl) (.inl ⟨?_, by decide⟩)
    rw [mut_carries0]; omega
theorem mut_s1 (u s cn sn : List UInt8) : read (cv sMutual 2 1 1 (lk u s) sn cn [] 0) = (cv sMutual 2 2 2 (lk u s) sn cn [] 0, sn ++ Sha.mac s (sServer ++ cn ++ sn), 0) :=
  read_is _ _ _ _ _ _ _ _ _ _ _ (mut_msg1 _ _ _ _ _ _ _ _).1 (by decide) (by rfl)
theorem mut_learn1 (u s cn sn x : List UInt8) (h : sn.length = 32) : learn (cv sMutual 1 2 1 (lk u s) cn [] [] 0) (sn ++ x) = cv sMutual 1 2 1 (lk u s) cn sn [] 0 := by
  rw [learn_at _ _ _ _ _ _ _ _ _ _ 0 (mut_carries1 _ _ _ _ _ _ _ _) (by rw [List.length_append]; omega), List.drop_zero, List.take_left' h]
theorem mut_c1 (u s cn sn : List UInt8) (h : sn.length = 32) : write (cv sMutual 1 2 1 (lk u s) cn [] [] 0) (sn ++ Sha.mac s (sServer ++ cn ++ sn)) = (cv sMutual 1 1 2 (lk u s) cn sn [] 0, 0) :=
  write_ok _ _ _ _ _ _ _ _ _ _ _ _ (mut_learn1 u s cn sn _ h) (fun _ => h) (mut_msg1 _ _ _ _ _ _ _ _).2 (by decide) (by rfl)
theorem mut_c1n (u s s2 cn sn : List UInt8) (h : sn.length = 32) (hn : Sha.mac s (sServer ++ cn ++ sn) ≠ Sha.mac s2 (sServer ++ cn ++ sn)) : write (cv sMutual 1 2 1 (lk u s) cn [] [] 0) (sn ++ Sha.mac s2 (sServer ++ cn ++ sn)) = (cv sMutual 1 4 1 (lk u s) cn [] [] 28, 28) :=
  write_no _ _ _ _ _ _ _ _ _ _ (mut_learn1 u s cn sn _ h) (.inr (by
    rw [(mut_msg1 _ _ _ _ _ _ _ _).2]
    intro e
    exact hn (List.append_cancel_left e)))
theorem mut_c2 (u s cn sn : List UInt8) : read (cv sMutual 1 1 2 (lk u s) cn sn [] 0) = (cv sMutual 1 3 3 (lk u s) cn sn u 0, Sha.mac s (sClient ++ cn ++ sn), 0) :=
  read_is _ _ _ _ _ _ _ _ _ _ _ (mut_msg2 _ _ _ _ _ _ _ _).1 (by decide) (by rfl)
theorem mut_s2 (u s cn sn : List UInt8) : write (cv sMutual 2 2 2 (lk u s) sn cn [] 0) (Sha.mac s (sClient ++ cn ++ sn)) = (cv sMutual 2 3 3 (lk u s) sn cn u 0, 0) :=
  write_ok _ _ _ _ _ _ _ _ _ _ _ _ (learn_off _ _ (by rw [mut_carries2]; decide)) (fun h => by rw [mut_carries2] at h; omega) (mut_msg2 _ _ _ _ _ _ _ _).2 (by decide) (by rfl)
theorem mut_good (u s cn sn : List UInt8) (hc : cn.length = 32) (hs : sn.length = 32) : run 16 0 (cv sMutual 1 1 0 (lk u s) cn [] [] 0) (cv sMutual 2 2 0 (lk u s) sn [] [] 0) = (cv sMutual 1 3 3 (lk u s) cn sn u 0, cv sMutual 2 3 3 (lk u s) sn cn u 0, 3) := by
  rw [run_ab ⟨rfl, rfl⟩ (mut_c0 u s cn) (mut_s0 u s cn sn hc), run_ba ⟨rfl, rfl⟩ (mut_s1 u s cn sn) (mut_c1 u s cn sn hs), run_ab ⟨rfl, rfl⟩ (mut_c2 u s cn sn) (mut_s2 u s cn sn), run_stop 3 3 rfl rfl (by decide) (by decide)]
  rfl
theorem mut_good2 (u s cn sn : List UInt8) (hc : cn.length = 32) (hs : sn.length = 32) : run 16 0 (cv sMutual 2 2 0 (lk u s) sn [] [] 0) (cv sMutual 1 1 0 (lk u s) cn [] [] 0) = (cv sMutual 2 3 3 (lk u s) sn cn u 0, cv sMutual 1 3 3 (lk u s) cn sn u 0, 3) := by
  rw [run_ba ⟨rfl, rfl⟩ (mut_c0 u s cn) (mut_s0 u s cn sn hc), run_ab ⟨rfl, rfl⟩ (mut_s1 u s cn sn) (mut_c1 u s cn sn hs), run_ba ⟨rfl, rfl⟩ (mut_c2 u s cn sn) (mut_s2 u s cn sn), run_stop 3 3 rfl rfl (by decide) (by decide)]
  rfl
theorem mut_badU (u s u2 s2 cn sn : List UInt8) (hu : u.length ≤ 65535) (hu2 : u2.length ≤ 65535) (h : u ≠ u2) : run 16 0 (cv sMutual 1 1 0 (lk u s) cn [] [] 0) (cv sMutual 2 2 0 (lk u2 s2) sn [] [] 0) = (cv sMutual 1 2 1 (lk u s) cn [] [] 0, cv sMutual 2 4 0 (lk u2 s2) sn [] [] 28, 1) := by
  rw [run_ab ⟨rfl, rfl⟩ (mut_c0 u s cn) (mut_s0n u u2 s2 cn sn hu hu2 h), run_stop 2 4 rfl rfl (by decide) (by decide)]
  rfl
theorem mut_badS (u s s2 cn sn : List UInt8) (hc : cn.length = 32) (hs : sn.length = 32) (hn : Sha.mac s (sServer ++ cn ++ sn) ≠ Sha.mac s2 (sServer ++ cn ++ sn)) : run 16 0 (cv sMutual 1 1 0 (lk u s) cn [] [] 0) (cv sMutual 2 2 0 (lk u s2) sn [] [] 0) = (cv sMutual 1 4 1 (lk u s) cn [] [] 28, cv sMutual 2 2 2 (lk u s2) sn cn [] 0, 2) := by
  rw [run_ab ⟨rfl, rfl⟩ (mut_c0 u s cn) (mut_s0 u s2 cn sn hc), run_ba ⟨rfl, rfl⟩ (mut_s1 u s2 cn sn) (mut_c1n u s s2 cn sn hs hn), run_stop 4 2 rfl rfl (by decide) (by decide)]
  rfl
theorem start_of {p : List UInt8} {r : Int} {l : List Att} {n : List UInt8} {R : Cnv} (h : start p r l n = (R, 0)) : R = settled ⟨0, p, r, 0, 0, l, n, [], [], 0⟩ ∧ known p = true ∧ n.length = 32 ∧ keyE l = 0 := by
  unfold start at h
  split at h
  · cases h
  · rename_i h1
    split at h
    · cases h
    · rename_i h2
      split at h
      · rename_i h3
        exact absurd (Prod.mk.inj h).2 h3
      · rename_i h3
        exact ⟨(Prod.mk.inj h).1.symm, by simpa using h1, by omega, by omega⟩
theorem keyE_ok {l : List Att} (h : keyE l = 0) : keyOk l = true := by
  unfold keyE at h
  by_cases hc : check l = 0
  · rw [if_pos hc] at h
    by_cases hk : keyOk l = true
    · exact hk
    · rw [if_neg hk] at h; exact absurd h (by decide)
  · rw [if_neg hc] at h; exact absurd h hc
theorem start_lk {p : List UInt8} {r : Int} {u s n : List UInt8} {R : Cnv} (h : start p r (lk u s) n = (R, 0)) : R = settled (cv p r 0 0 (lk u s) n [] [] 0) ∧ (p = sChal ∨ p = sMutual ∨ p = sPlain) ∧ n.length = 32 ∧ u.length ≤ 32 ∧ s.length ≤ 64 := by
  obtain ⟨h1, h2, h4, h5⟩ := start_of h
  unfold known at h2
  simp only [Bool.or_eq_true, decide_eq_true_eq] at h2
  have hk := keyE_ok h5
  have hk2 : (decide (1 ≤ u.length) && decide (u.length ≤ 32) && decide (1 ≤ s.length) && decide (s.length ≤ 64)) = true := hk
  simp only [Bool.and_eq_true, decide_eq_true_eq] at hk2
  exact ⟨h1, by rcases h2 with (h | h) | h; exact .inl h; exact .inr (.inl h); exact .inr (.inr h), h4, by omega, by omega⟩
theorem start_lk_fine {p : List UInt8} {r : Int} {u s n : List UInt8} {R : Cnv} (h : start p r (lk u s) n = (R, 0)) : Fine R ∧ R.step = 0 ∧ R.key = lk u s := by
  obtain ⟨rfl, _, hn, hu, hs⟩ := start_lk h
  refine ⟨⟨by show 2 ≤ 1000; decide, fun j hj => ?_, by show n.length ≤ 1000; omega, by show 0 ≤ 1000; decide⟩, rfl, rfl⟩
  have hj2 : j < 2 := hj
  match j, hj2 with
  | 0, _ => exact ⟨by show 4 ≤ 1000; decide, by show u.length ≤ 1000; omega⟩
  | 1, _ => exact ⟨by show 7 ≤ 1000; decide, by show s.length ≤ 1000; omega⟩
theorem set_chal1 (K : List Att) (n : List UInt8) : settled (cv sChal 1 0 0 K n [] [] 0) = cv sChal 1 2 0 K n [] [] 0 := rfl
theorem set_chal2 (K : List Att) (n : List UInt8) : settled (cv sChal 2 0 0 K n [] [] 0) = cv sChal 2 1 0 K n [] [] 0 := rfl
theorem set_mut1 (K : List Att) (n : List UInt8) : settled (cv sMutual 1 0 0 K n [] [] 0) = cv sMutual 1 1 0 K n [] [] 0 := rfl
theorem set_mut2 (K : List Att) (n : List UInt8) : settled (cv sMutual 2 0 0 K n [] [] 0) = cv sMutual 2 2 0 K n [] [] 0 := rfl
theorem set_plain1 (K : List Att) (n : List UInt8) : settled (cv sPlain 1 0 0 K n [] [] 0) = cv sPlain 1 1 0 K n [] [] 0 := rfl
theorem set_plain2 (K : List Att) (n : List UInt8) : settled (cv sPlain 2 0 0 K n [] [] 0) = cv sPlain 2 2 0 K n [] [] 0 := rfl
theorem honest_run {p u s cn sn : List UInt8} {C S : Cnv} (hC : start p 1 (lk u s) cn = (C, 0)) (hS : start p 2 (lk u s) sn = (S, 0)) :
    ∃ A B r, run 16 0 C S = (A, B, r) ∧ run 16 0 S C = (B, A, r) ∧ done A = (u, true) ∧ done B = (u, true) ∧ 2 ≤ r ∧ r ≤ 3 ∧ A.key = lk u s ∧ B.key = lk u s := by
  obtain ⟨rfl, hp, hc, _, _⟩ := start_lk hC
  obtain ⟨rfl, _, hs, _, _⟩ := start_lk hS
  rcases hp with rfl | rfl | rfl
  · rw [set_chal1, set_chal2]
    exact ⟨_, _, _, chal_good u s cn sn hs, chal_good2 u s cn sn hs, rfl, rfl, by decide, by decide, rfl, rfl⟩
  · rw [set_mut1, set_mut2]
    exact ⟨_, _, _, mut_good u s cn sn hc hs, mut_good2 u s cn sn hc hs, rfl, rfl, by decide, by decide, rfl, rfl⟩
  · rw [set_plain1, set_plain2]
    exact ⟨_, _, _, plain_good u s cn sn, plain_good2 u s cn sn, rfl, rfl, by decide, by decide, rfl, rfl⟩
theorem equal_chal (s s2 cn sn : List UInt8) (h : Sha.mac s sn = Sha.mac s2 sn) : equal sChal s s2 cn sn = true := by
  unfold equal; rw [if_pos rfl]; exact decide_eq_true h
theorem equal_mut (s s2 cn sn : List UInt8) (h : Sha.mac s (sServer ++ cn ++ sn) = Sha.mac s2 (sServer ++ cn ++ sn)) : equal sMutual s s2 cn sn = true := by
  unfold equal; rw [if_neg n1, decide_eq_true (rfl : sMutual = sMutual), decide_eq_true h]; rfl
theorem wrong_run {p u s u2 s2 cn sn : List UInt8} {C S : Cnv} (hC : start p 1 (lk u s) cn = (C, 0)) (hS : start p 2 (lk u2 s2) sn = (S, 0)) (hn : ¬ (u = u2 ∧ s = s2)) :
    ∃ A B r, run 16 0 C S = (A, B, r) ∧ (u ≠ u2 → (done B).2 = false) ∧ (u = u2 → ((done B).2 = false ∧ ((done A).2 = false ∨ p ≠ sMutual)) ∨ equal p s s2 cn sn = true) ∧ A.key = lk u s ∧ B.key = lk u2 s2 := by
  obtain ⟨rfl, hp, hc, hu, hs⟩ := start_lk hC
  obtain ⟨rfl, _, hsn, hu2, hs2⟩ := start_lk hS
  rcases hp with rfl | rfl | rfl
  · rw [set_chal1, set_chal2]
    by_cases h : u = u2 ∧ Sha.mac s sn = Sha.mac s2 sn
    · obtain ⟨A, hA⟩ : ∃ A, run 16 0 (cv sChal 1 2 0 (lk u s) cn [] [] 0) (cv sChal 2 1 0 (lk u2 s2) sn [] [] 0) = A := ⟨_, rfl⟩
      have hk := run_keys 16 0 (cv sChal 1 2 0 (lk u s) cn [] [] 0) (cv sChal 2 1 0 (lk u2 s2) sn [] [] 0)
      rw [hA] at hk
      exact ⟨A.1, A.2.1, A.2.2, hA, fun hne => absurd h.1 hne, fun _ => .inr (equal_chal _ _ _ _ h.2), hk.1, hk.2⟩
    · exact ⟨_, _, _, chal_bad u s u2 s2 cn sn hsn (by omega) (by omega) h, fun _ => rfl, fun _ => .inl ⟨rfl, .inr n4⟩, rfl, rfl⟩
  · rw [set_mut1, set_mut2]
    by_cases h : u = u2
    · subst h
      by_cases hm : Sha.mac s (sServer ++ cn ++ sn) = Sha.mac s2 (sServer ++ cn ++ sn)
      · obtain ⟨A, hA⟩ : ∃ A, run 16 0 (cv sMutual 1 1 0 (lk u s) cn [] [] 0) (cv sMutual 2 2 0 (lk u s2) sn [] [] 0) = A := ⟨_, rfl⟩
        have hk := run_keys 16 0 (cv sMutual 1 1 0 (lk u s) cn [] [] 0) (cv sMutual 2 2 0 (lk u s2) sn [] [] 0)
        rw [hA] at hk
        exact ⟨A.1, A.2.1, A.2.2, hA, fun hne => absurd rfl hne, fun _ => .inr (equal_mut _ _ _ _ hm), hk.1, hk.2⟩
      · exact ⟨_, _, _, mut_badS u s s2 cn sn hc hsn hm, fun _ => rfl, fun _ => .inl ⟨rfl, .inl rfl⟩, rfl, rfl⟩
    · exact ⟨_, _, _, mut_badU u s u2 s2 cn sn (by omega) (by omega) h, fun _ => rfl, fun e => absurd e h, rfl, rfl⟩
  · rw [set_plain1, set_plain2]
    exact ⟨_, _, _, plain_bad u s u2 s2 cn sn (by omega) (by omega) (by omega) (by omega) hn, fun _ => rfl, fun _ => .inl ⟨rfl, .inr n3⟩, rfl, rfl⟩
end Au
end Go.Proofs.YtjjdaelddicokaaDoor
