/- The law AuthRuns returns true: the reference's Put, text, Read, Write and Run, and the walk of the law. Conditions: the slices of the keys hold the given lists; the 64 constants in the variable. -/
import Derived.Test.YtjjdaelddicokaaGreatDoorOctPut
import Derived.Test.YtjjdaelddicokaaGreatDoorAuPt
import Derived.Test.YtjjdaelddicokaaGreatDoorAuRef2
import Derived.Test.YtjjdaelddicokaaGreatDoorRefMac
import Derived.Deep.RegionHeldLaw
import Derived.Test.YtjjdaelddicokaaGreatDoorAuLaws
import Derived.Test.YtjjdaelddicokaaGreatDoorAuRun
import Derived.Deep.CutBlock
import Derived.Test.YtjjdaelddicokaaGreatDoorAuAwake
import Derived.Test.YtjjdaelddicokaaGreatDoorAuRRight
import Derived.Test.YtjjdaelddicokaaGreatDoorAuRows
import Derived.ProofKit
import Derived.Deep.Slices
import Derived.Deep.Strs
import Derived.OpenShut
import Derived.SliceStrings
set_option linter.unusedVariables false
namespace Go.Proofs.YtjjdaelddicokaaGreatDoor
open Go.RowKit

set_option maxHeartbeats 400000 in
theorem rvalid_no (wd : Int) (w : World) (h : wd < 1 ∨ 8 < wd) :
    Calls Tryz.prog 89 #[.int .i64 wd] w fun e w' => e = .returned (.bool false) ∧ w = w' := by
  by_cases h1 : wd < 1
  · go_enter Tryz.func89, Tryz.ntmps89
    go_wp2
    go_ret
    exact ⟨by simp <;> omega, rfl⟩
  · have h2 : 8 < wd := by omega
    clear h
    go_enter Tryz.func89, Tryz.ntmps89
    go_wp2
    go_ret
    exact ⟨by simp <;> omega, rfl⟩

theorem rvalid_yes (wd : Int) (w : World) (h1 : 1 ≤ wd) (h2 : wd ≤ 8) :
    Calls Tryz.prog 89 #[.int .i64 wd] w fun e w' => e = .returned (.bool true) ∧ w = w' := by
  go_enter Tryz.func89, Tryz.ntmps89
  go_wp2
  go_ret
  exact ⟨by simp <;> omega, rfl⟩

set_option maxHeartbeats 400000 in
theorem rput_arg (n wd : Int) (w : World) (hw : wd < 1 ∨ 8 < wd) :
    Calls Tryz.prog 81 #[.int .i64 n, .int .i64 wd] w (PutSays n wd w) := by
  have hE : Oct.putE n wd = 1 := by unfold Oct.putE; rw [if_pos hw]
  have HF := Lib.hid (put_says hE (by decide) (Below.refl _ w)); clear hE
  go_enter Tryz.func81, Tryz.ntmps81
  go_wp2_with (go_at_call 89; refine (rvalid_no _ _ hw).mono ?_; rintro e w' ⟨rfl, rfl⟩)
  go_ret2
  exact HF.out

/-- 'string([]byte{b})' -/
theorem conv_one {src dst e : TypeId} (w : World) (b : Int) (h0 : 0 ≤ b) (hb : b < 256) (hs : Tryz.prog.underlying src = some (.slice e)) (he : Tryz.prog.underlying e = some (.int .u8)) (hd : Tryz.prog.underlying dst = some .string) :
    (convert src dst (.slice (some ⟨w.heap.size, 0, none⟩) 1 1)).run Tryz.prog (w.alloc (.cells #[.int .u8 b] e)) = .ok (.string (T [UInt8.ofNat b.toNat])) (w.alloc (.cells #[.int .u8 b] e)) := by
  refine run_convert_bytes_back (w.alloc (.cells #[.int .u8 b] e)) src dst e ⟨w.heap.size, 0, none⟩ 1 [UInt8.ofNat b.toNat] hs he hd fun j hj => ?_
  obtain rfl : j = 0 := by simp at hj; exact hj
  have : ((UInt8.ofNat b.toNat).toNat : Int) = b := by simp; omega
  simp only [Addr.add, if_pos]
  rw [World.cell?_alloc_at _ _ _ _ rfl]
  simp only [List.getElem_cons_zero, this]
  rfl

theorem add_T (w : World) (a b : List UInt8) (h : a.length + b.length ≤ 9223372036854775807) : (Op.stringOp .add (T a) (T b)).run Tryz.prog w = .ok (.string (T (a ++ b))) w := by
  rw [run_string_add_sum w _ _ (by rw [T_size, T_size]; exact h), T_append]

set_option maxHeartbeats 400000 in
theorem rput_go (n : Int) (k : Nat) (w : World) (h1 : 1 ≤ k) (h2 : k ≤ 8) (h3 : 0 ≤ n) (h4 : n ≤ 9223372036854775807) :
    Calls Tryz.prog 81 #[.int .i64 n, .int .i64 k] w (PutSays n k w) := by
  have h5 : (1 : Int) ≤ k ∧ (k : Int) ≤ 8 := by omega
  obtain ⟨N, rfl⟩ := Int.eq_ofNat_of_zero_le h3
  go_enter Tryz.func81, Tryz.ntmps81
  go_wp2_with (go_at_call 89; refine (rvalid_yes _ _ h5.1 h5.2).mono ?_; rintro e w' ⟨rfl, rfl⟩)
  go_loopw [6, 7, 8] (fun s l i wr => ∃ j : Nat, j ≤ k ∧ i = .int .i64 j ∧ s = .string (T (Oct.le j N)) ∧ l = .int .i64 ((N / 256 ^ j : Nat) : Int) ∧ Below w.heap.size w wr) (fun _ _ i _ => k - (intOf i).toNat)
  case atStart => exact ⟨0, Nat.zero_le _, rfl, rfl, by simp, Below.refl _ _⟩
  case round =>
    obtain ⟨j, hj, rfl, rfl, rfl, hb⟩ := hrel
    have hM : N / 256 ^ j ≤ N := Nat.div_le_self _ _
    generalize hL : N / 256 ^ j = L at *
    have HL := Lib.hid hL; clear hL
    by_cases hlt : j < k
    · have hcv := conv_one (src := 85) (dst := 9) wr ((L : Int) % 256) (by omega) (by omega) Tryz.underlying85 Tryz.underlying5 Tryz.underlying9
      rw [show ((L : Int) % 256).toNat = L % 256 from by omega] at hcv
      have hadd := fun w : World => add_T w (Oct.le j N) [UInt8.ofNat (L % 256)] (by rw [Oct.le_length]; simp; omega)
      go_wp2
      go_roundw
      case rel =>
        refine ⟨j + 1, by omega, by go_num, ?_, ?_, hb.alloc hb.size _⟩
        · have e1 : UInt8.ofNat (L % 256) = UInt8.ofNat L := by apply UInt8.toNat_inj.1; simp
          rw [Oct.le_snoc, HL.out, e1]
        · have := HL.out
          rw [Nat.pow_succ, ← Nat.div_div_eq_div_mul, this]
          rfl
      case measure => simp [intOf]; omega
    · obtain rfl : j = k := by omega
      by_cases h0 : L = 0
      · have HF := Lib.hid (fun hf => put_ok (N : Int) j w wr h1 h2 (by omega) hf hb)
        subst h0
        go_wp2
        go_ret2
        refine HF.out ?_
        have hp : 0 < 256 ^ j := Nat.pow_pos (by decide)
        have := (Nat.div_eq_zero_iff.1 HL.out).resolve_left (by omega)
        have h' : ((N : Nat) : Int) < ((256 ^ j : Nat) : Int) := Int.ofNat_lt.2 this
        rw [Int.natCast_pow] at h'
        exact h'
      · have hL0 : ((L : Int) == 0) = false := beq_eq_false_iff_ne.2 (by omega)
        have hE : Oct.putE (N : Int) j = 5 := by
          have hp : 0 < 256 ^ j := Nat.pow_pos (by decide)
          have h := HL.out
          have this : 256 ^ j ≤ N := by
            rcases Nat.lt_or_ge N (256 ^ j) with hlt | hge
            · rw [Nat.div_eq_of_lt hlt] at h; omega
            · exact hge
          have h' : ((256 ^ j : Nat) : Int) ≤ ((N : Nat) : Int) := Int.ofNat_le.2 this
          rw [Int.natCast_pow] at h'
          unfold Oct.putE
          rw [if_neg (by omega), if_pos (.inr (by rw [Int.toNat_natCast]; exact h'))]
        have HF := Lib.hid (put_says hE (by decide) hb); clear hE
        go_wp2
        go_ret2
        exact HF.out

set_option maxHeartbeats 400000 in
theorem rput_neg (n wd : Int) (w : World) (h1 : 1 ≤ wd) (h2 : wd ≤ 8) (h3 : n < 0) :
    Calls Tryz.prog 81 #[.int .i64 n, .int .i64 wd] w (PutSays n wd w) := by
  have hE : Oct.putE n wd = 5 := by unfold Oct.putE; rw [if_neg (by omega), if_pos (.inl h3)]
  have HF := Lib.hid (put_says hE (by decide) (Below.refl _ w)); clear hE
  have hn0 : (n == 0) = false := by simp; omega
  go_enter Tryz.func81, Tryz.ntmps81
  go_wp2_with (go_at_call 89; refine (rvalid_yes _ _ h1 h2).mono ?_; rintro e w' ⟨rfl, rfl⟩)
  refine wp_loop_rounds 1 ?_
  rw [rounds_succ]
  go_wp2
  go_ret2
  exact HF.out

/-- The reference's Put, whatever it is given. -/
theorem rput_any (n wd : Int) (w : World) (hn : n ≤ 9223372036854775807) : Calls Tryz.prog 81 #[.int .i64 n, .int .i64 wd] w (PutSays n wd w) := by
  by_cases h : wd < 1 ∨ 8 < wd
  · exact rput_arg n wd w h
  · by_cases h3 : n < 0
    · exact rput_neg n wd w (by omega) (by omega) h3
    · obtain ⟨k, rfl⟩ := Int.eq_ofNat_of_zero_le (show 0 ≤ wd by omega)
      exact rput_go n k w (by omega) (by omega) (by omega) hn

set_option maxHeartbeats 400000 in
theorem rpt_any (s : ByteArray) (w : World) (hs : s.size ≤ 9223372036854775807) : Calls Tryz.prog 70 #[.string s] w (PtSays s w) := by
  by_cases h : 65535 < s.size
  · have HF := Lib.hid (fun w' => pt_long h (w := w) (w' := w'))
    have hc := (rput_any (s.size : Int) 2 w (by omega)).mono fun e w' hp => putSays_long s.size h hp
    have HC := Lib.hid hc
    clear h hc
    go_enter Tryz.func70, Tryz.ntmps70
    go_wp2_with (go_at_call 81; refine HC.out.mono ?_; rintro e w' ⟨rfl, hb⟩)
    go_ret2
    exact HF.out _ hb
  · have HF := Lib.hid (fun w' => pt_short h (w := w) (w' := w'))
    have hc := (rput_any (s.size : Int) 2 w (by omega)).mono fun e w' hp => putSays_len s.size (by omega) hp
    have HC := Lib.hid hc
    have hadd := le2_add s (by omega)
    clear h hc
    go_enter Tryz.func70, Tryz.ntmps70
    go_wp2_with (go_at_call 81; refine HC.out.mono ?_; rintro e w' ⟨rfl, hb⟩)
    go_ret2
    exact HF.out _ hb
end Go.Proofs.YtjjdaelddicokaaGreatDoor
set_option linter.unusedVariables false
set_option linter.unusedSimpArgs false
namespace Go.Proofs.YtjjdaelddicokaaGreatDoor
open Go.RowKit
open Au (Att Cnv)
namespace Au
/-- The reference's message with a number. -/
def rtext (c : Cnv) (k : Int) (a b : List UInt8) : List UInt8 :=
  if c.proto = sPlain ∧ k = 0 then put (user c.key) ++ put (sec c.key) else if c.proto = sChal ∧ k = 0 then b else if c.proto = sChal ∧ k = 1 then put (user c.key) ++ Sha.mac (sec c.key) b
  else if c.proto = sMutual ∧ k = 0 then put (user c.key) ++ a else if c.proto = sMutual ∧ k = 1 then b ++ Sha.mac (sec c.key) (sServer ++ a ++ b) else if c.proto = sMutual ∧ k = 2 then Sha.mac (sec c.key) (sClient ++ a ++ b) else sOk
def rspoken (c : Cnv) (p : List UInt8) : List UInt8 := if c.role = 1 then rtext c c.step c.own p else rtext c c.step p c.own
/-- 32 bytes at an offset. -/
def rnonce (s : List UInt8) (at_ : Nat) : List UInt8 × Bool := if s.length < at_ + 32 then ([], false) else ((s.drop at_).take 32, true)
theorem q1 : ¬ sMutual = sChal := by decide
theorem q2 : ¬ sPlain = sChal := by decide
theorem q3 : ¬ sPlain = sMutual := by decide
theorem q4 : ¬ sChal = sMutual := by decide
theorem q5 : ¬ sChal = sPlain := by decide
theorem q6 : ¬ sMutual = sPlain := by decide
/-- The reference's message is the product's. -/
theorem rspoken_eq {c : Cnv} (hp : known c.proto = true) (hr : c.role = 1 ∨ c.role = 2) (hs : c.step = 0 ∨ c.step = 1 ∨ c.step = 2) (p : List UInt8) : rspoken c p = msg { c with peer := p } c.step := by
  obtain ⟨id, proto, role, phase, step, key, own, peer, us, err⟩ := c
  simp only at hp hr hs
  unfold known at hp
  simp only [Bool.or_eq_true, decide_eq_true_eq] at hp
  rcases hp with (rfl | rfl) | rfl <;> rcases hr with rfl | rfl <;> rcases hs with rfl | rfl | rfl
  all_goals simp [rspoken, rtext, msg, msgChal, msgMutual, msgPlain, cl, sv, mac, q1, q2, q3, q4, q5, q6]
end Au
set_option maxHeartbeats 2000000 in
theorem rputt_any (s : List UInt8) (w : World) (hs : s.length ≤ 1000000) :
    Calls Tryz.prog 59 #[.string (T s)] w fun e w' => e = .returned (.string (T (Au.put s))) ∧ Below w.heap.size w w' := by
  have HC := Lib.hid (show Calls Tryz.prog 70 #[.string (T s)] w fun e w' => e = .returned (.tuple #[.string (T (Au.put s)), .int .i64 (Oct.ptE s)]) ∧ Below w.heap.size w w' from rpt_any (T s) w (by rw [T_size]; omega))
  go_enter Tryz.func59, Tryz.ntmps59
  go_wp2_with fail
  (with_reducible refine HC.out.mono ?_); rintro e w1 ⟨rfl, b1⟩
  have HB := Lib.hid b1
  clear b1
  go_wp2_with fail
  go_ret
  exact ⟨rfl, HB.out⟩
set_option maxRecDepth 20000 in
set_option maxHeartbeats 8000000 in
theorem rtext_any (c : Cnv) (ao : Option Addr) (m cp : Nat) (k : Int) (a b : List UInt8) (w : World) (hk : Atts w (.slice ao m cp) c.key) (hf : Fine c) (hp : Au.known c.proto = true) (ha : a.length ≤ 1000) (hb : b.length ≤ 1000) :
    Calls Tryz.prog 49 #[.agg #[.int .i64 c.id, .string (T c.proto), .int .i64 c.role, .int .i64 c.phase, .int .i64 c.step, (.slice ao m cp), .string (T c.own), .string (T c.peer), .string (T c.user), .int .i64 c.err], .int .i64 k, .string (T a), .string (T b)] w fun e w' => e = .returned (.string (T (Au.rtext c k a b))) ∧ Below w.heap.size w w' := by
  have HK := Lib.hid hk
  have HU := Lib.hid (fun (W : World) (h : TkS w W c (.slice ao m cp)) => (ruser_any (.slice ao m cp) c.key W (HK.out.below h.bel) (by have := hf.kl; omega)).mono fun e w' h' => (⟨h'.1, h.next h'.2⟩ : e = .returned (.string (T (Au.user c.key))) ∧ TkS w w' c (.slice ao m cp)))
  have HS := Lib.hid (fun (W : World) (h : TkS w W c (.slice ao m cp)) => (rsec_any (.slice ao m cp) c.key W (HK.out.below h.bel) (by have := hf.kl; omega)).mono fun e w' h' => (⟨h'.1, h.next h'.2⟩ : e = .returned (.string (T (Au.sec c.key))) ∧ TkS w w' c (.slice ao m cp)))
  have HPT := Lib.hid (fun (s : List UInt8) (W : World) (hs : s.length ≤ 1000000) (h : TkS w W c (.slice ao m cp)) => (rputt_any s W hs).mono fun e w' h' => (⟨h'.1, h.next h'.2⟩ : e = .returned (.string (T (Au.put s))) ∧ TkS w w' c (.slice ao m cp)))
  have HMC := Lib.hid (fun (s t : List UInt8) (W : World) (hs : s.length ≤ 1000000) (ht : t.length ≤ 1000000) (h : TkS w W c (.slice ao m cp)) => (rmac_T s t W hs ht).mono fun e w' h' => (⟨h'.1, h.next h'.2⟩ : e = .returned (.string (T (Sha.mac s t))) ∧ TkS w w' c (.slice ao m cp)))
  have H0 : Hid (TkS w (w.alloc (.cells #[.int .i64 c.id, .string (T c.proto), .int .i64 c.role, .int .i64 c.phase, .int .i64 c.step, (.slice ao m cp), .string (T c.own), .string (T c.peer), .string (T c.user), .int .i64 c.err] 25)) c (.slice ao m cp)) := tk_0
  have hul : (Au.user c.key).length ≤ 1000 := hf.find Au.sUser
  have hsl : (Au.sec c.key).length ≤ 1000 := hf.find Au.sSecret
  have HDF := Lib.hid (fun (k : Int) => show Au.rtext c k a b = (if c.proto = Au.sPlain ∧ k = 0 then Au.put (Au.user c.key) ++ Au.put (Au.sec c.key) else if c.proto = Au.sChal ∧ k = 0 then b else if c.proto = Au.sChal ∧ k = 1 then Au.put (Au.user c.key) ++ Sha.mac (Au.sec c.key) b
    else if c.proto = Au.sMutual ∧ k = 0 then Au.put (Au.user c.key) ++ a else if c.proto = Au.sMutual ∧ k = 1 then b ++ Sha.mac (Au.sec c.key) (Au.sServer ++ a ++ b) else if c.proto = Au.sMutual ∧ k = 2 then Sha.mac (Au.sec c.key) (Au.sClient ++ a ++ b) else Au.sOk) from rfl)
  clear hk hf
  generalize Au.user c.key = us at *
  generalize Au.sec c.key = se at *
  have hpu := Au.put_le us
  have hps := Au.put_le se
  have hm : ∀ t, (Sha.mac se t).length = 32 := fun t => Sha.mac_length se t
  have HUL := Lib.hid (⟨hul, hsl, hpu, hps, hm⟩ : us.length ≤ 1000 ∧ se.length ≤ 1000 ∧ (Au.put us).length ≤ us.length + 2 ∧ (Au.put se).length ≤ se.length + 2 ∧ ∀ t, (Sha.mac se t).length = 32)
  have HAB := Lib.hid (⟨ha, hb⟩ : a.length ≤ 1000 ∧ b.length ≤ 1000)
  clear hul hsl hpu hps hm ha hb
  go_enter Tryz.func49, Tryz.ntmps49
  go_upto_region 1 with fail
  generalize w.alloc _ = w0 at *
  have HSD : Hid (TkS w w0.drew c (.slice ao m cp)) := H0.out.next (below_drew1 (Below.refl _ _))
  go_region_held_law (fun W' => TkS w W' c (.slice ao m cp)) (first | (with_reducible assumption) | (with_reducible exact HSD.out)) (first | (go_at_call 23; (with_reducible refine (HU.out _ (by assumption)).mono ?_); rintro e wx ⟨rfl, hkeep⟩) | (go_at_call 40; (with_reducible refine (HS.out _ (by assumption)).mono ?_); rintro e wy ⟨rfl, hkeep2⟩))
  have HT0 := Lib.hid hkeep2
  clear HSD HU HS H0 hkeep hkeep2
  obtain ⟨x0, x1, x2, x3, x4, x5, x6, x7, x8, x9, b0⟩ := HT0.out
  clear b0
  unfold Au.known at hp
  simp only [Bool.or_eq_true, decide_eq_true_eq] at hp
  have lu : us.length ≤ 1000000 := by have := HUL.out.1; omega
  have ls : se.length ≤ 1000000 := by have := HUL.out.2.1; omega
  have lb : b.length ≤ 1000000 := by have := HAB.out.2; omega
  rcases hp with (hp | hp) | hp
  · have p1 : (c.proto == [112, 108, 97, 105, 110]) = false := seq_no (by rw [hp]; exact Au.q5)
    have p2 : (c.proto == [99, 104, 97, 108]) = true := seq_yes hp
    have p3 : (c.proto == [109, 117, 116, 117, 97, 108]) = false := seq_no (by rw [hp]; exact Au.q4)
    by_cases k0 : k = 0
    · have HF := Lib.hid (show Au.rtext c k a b = b from by rw [HDF.out, if_neg (fun h => Au.q5 (hp.symm.trans h.1)), if_pos ⟨hp, k0⟩])
      have e0 : (k == 0) = true := by rw [k0]; rfl
      clear k0 hp
      go_wp2_with fail
      go_ret
      exact ⟨by rw [HF.out]; rfl, TkS.bel HT0.out⟩
    have e0 : (k == 0) = false := beq_eq_false_iff_ne.2 k0
    by_cases k1 : k = 1
    · have HF := Lib.hid (show Au.rtext c k a b = Au.put us ++ Sha.mac se b from by rw [HDF.out, if_neg (fun h => Au.q5 (hp.symm.trans h.1)), if_neg (fun h => k0 h.2), if_pos ⟨hp, k1⟩])
      have e1 : (k == 1) = true := by rw [k1]; rfl
      have b1 : (Au.put us).length + (Sha.mac se b).length ≤ 9223372036854775807 := by have := HUL.out.2.2.2.2 b; have := HUL.out.1; have := HUL.out.2.2.1; omega
      clear k0 k1 hp
      go_wp2_with fail
      (with_reducible refine (HPT.out _ _ lu HT0.out).mono ?_); rintro e w2 ⟨rfl, h2⟩
      have H2 := Lib.hid h2
      clear h2 x0 x1 x2 x3 x4 x5 x6 x7 x8 x9
      go_wp2_with fail
      (with_reducible refine (HMC.out _ _ _ ls lb H2.out).mono ?_); rintro e w3 ⟨rfl, h3⟩
      have H3 := Lib.hid h3
      clear h3
      go_wp2_with fail
      try rw [T_append]
      go_ret
      exact ⟨by rw [HF.out]; rfl, TkS.bel H3.out⟩
    have e1 : (k == 1) = false := beq_eq_false_iff_ne.2 k1
    have HF := Lib.hid (show Au.rtext c k a b = [111, 107] from by rw [HDF.out, if_neg (fun h => k0 h.2), if_neg (fun h => k0 h.2), if_neg (fun h => k1 h.2), if_neg (fun h => k0 h.2), if_neg (fun h => k1 h.2), if_neg (fun h => Au.q4 (hp.symm.trans h.1))]; rfl)
    clear k0 k1 hp
    go_wp2_with fail
    go_ret
    exact ⟨by rw [HF.out]; rfl, TkS.bel HT0.out⟩
  · have p1 : (c.proto == [112, 108, 97, 105, 110]) = false := seq_no (by rw [hp]; exact Au.q6)
    have p2 : (c.proto == [99, 104, 97, 108]) = false := seq_no (by rw [hp]; exact Au.q1)
    have p3 : (c.proto == [109, 117, 116, 117, 97, 108]) = true := seq_yes hp
    have nP : ∀ x : Int, ¬ (c.proto = Au.sPlain ∧ k = x) := fun _ h => Au.q6 (hp.symm.trans h.1)
    have nC : ∀ x : Int, ¬ (c.proto = Au.sChal ∧ k = x) := fun _ h => Au.q1 (hp.symm.trans h.1)
    have hd := HDF.out k
    rw [if_neg (nP 0), if_neg (nC 0), if_neg (nC 1)] at hd
    clear nP nC
    by_cases k0 : k = 0
    · have HF := Lib.hid (show Au.rtext c k a b = Au.put us ++ a from by rw [hd, if_pos ⟨hp, k0⟩])
      have e0 : (k == 0) = true := by rw [k0]; rfl
      have b1 : (Au.put us).length + a.length ≤ 9223372036854775807 := by have := HAB.out.1; have := HUL.out.1; have := HUL.out.2.2.1; omega
      clear k0 hp hd
      go_wp2_with fail
      (with_reducible refine (HPT.out _ _ lu HT0.out).mono ?_); rintro e w2 ⟨rfl, h2⟩
      have H2 := Lib.hid h2
      clear h2 x0 x1 x2 x3 x4 x5 x6 x7 x8 x9
      go_wp2_with fail
      try rw [T_append]
      go_ret
      exact ⟨by rw [HF.out]; rfl, TkS.bel H2.out⟩
    have e0 : (k == 0) = false := beq_eq_false_iff_ne.2 k0
    rw [if_neg (fun h => k0 h.2)] at hd
    by_cases k1 : k = 1
    · obtain ⟨M, hM⟩ : ∃ M, Sha.mac se ([115, 101, 114, 118, 101, 114] ++ a ++ b) = M := ⟨_, rfl⟩
      have HF := Lib.hid (show Au.rtext c k a b = b ++ M from by rw [hd, if_pos ⟨hp, k1⟩, ← hM]; rfl)
      have e1 : (k == 1) = true := by rw [k1]; rfl
      have l1 : ([115, 101, 114, 118, 101, 114] ++ a ++ b).length ≤ 1000000 := by have := HAB.out; rw [List.length_append, List.length_append]; simp; omega
      have b1 : b.length + M.length ≤ 9223372036854775807 := by have := HAB.out.2; have := HUL.out.2.2.2.2 ([115, 101, 114, 118, 101, 114] ++ a ++ b); rw [hM] at this; omega
      have b2 : 6 + a.length ≤ 9223372036854775807 := by have := HAB.out.1; omega
      have b3 : 6 + a.length + b.length ≤ 9223372036854775807 := by have := HAB.out; omega
      have HMC1 := Lib.hid (fun (W : World) (h : TkS w W c (.slice ao m cp)) => HMC.out se ([115, 101, 114, 118, 101, 114] ++ a ++ b) W ls l1 h)
      rw [hM] at HMC1
      clear k0 k1 hp hd hM l1 HMC
      go_wp2_with fail
      try simp only [T_append]
      (refine (HMC1.out _ HT0.out).mono ?_); rintro e w3 ⟨rfl, h3⟩
      have H3 := Lib.hid h3
      clear h3 x0 x1 x2 x3 x4 x5 x6 x7 x8 x9
      go_wp2_with fail
      try simp only [T_append]
      go_ret
      exact ⟨by rw [HF.out]; rfl, TkS.bel H3.out⟩
    have e1 : (k == 1) = false := beq_eq_false_iff_ne.2 k1
    rw [if_neg (fun h => k1 h.2)] at hd
    by_cases k2 : k = 2
    · have HF := Lib.hid (show Au.rtext c k a b = Sha.mac se ([99, 108, 105, 101, 110, 116] ++ a ++ b) from by rw [hd, if_pos ⟨hp, k2⟩]; rfl)
      have e2 : (k == 2) = true := by rw [k2]; rfl
      have l1 : ([99, 108, 105, 101, 110, 116] ++ a ++ b).length ≤ 1000000 := by have := HAB.out; rw [List.length_append, List.length_append]; simp; omega
      have b2 : 6 + a.length ≤ 9223372036854775807 := by have := HAB.out.1; omega
      have b3 : 6 + a.length + b.length ≤ 9223372036854775807 := by have := HAB.out; omega
      have HMC1 := Lib.hid (fun (W : World) (h : TkS w W c (.slice ao m cp)) => HMC.out se ([99, 108, 105, 101, 110, 116] ++ a ++ b) W ls l1 h)
      clear k0 k1 k2 hp hd l1 HMC
      go_wp2_with fail
      try simp only [T_append]
      (refine (HMC1.out _ HT0.out).mono ?_); rintro e w3 ⟨rfl, h3⟩
      have H3 := Lib.hid h3
      clear h3 x0 x1 x2 x3 x4 x5 x6 x7 x8 x9
      go_wp2_with fail
      go_ret
      exact ⟨by rw [HF.out]; rfl, TkS.bel H3.out⟩
    have e2 : (k == 2) = false := beq_eq_false_iff_ne.2 k2
    have HF := Lib.hid (show Au.rtext c k a b = [111, 107] from by rw [hd, if_neg (fun h => k2 h.2)]; rfl)
    clear k0 k1 k2 hp hd
    go_wp2_with fail
    go_ret
    exact ⟨by rw [HF.out]; rfl, TkS.bel HT0.out⟩
  · have p1 : (c.proto == [112, 108, 97, 105, 110]) = true := seq_yes hp
    have p2 : (c.proto == [99, 104, 97, 108]) = false := seq_no (by rw [hp]; exact Au.q2)
    have p3 : (c.proto == [109, 117, 116, 117, 97, 108]) = false := seq_no (by rw [hp]; exact Au.q3)
    by_cases k0 : k = 0
    · have HF := Lib.hid (show Au.rtext c k a b = Au.put us ++ Au.put se from by rw [HDF.out, if_pos ⟨hp, k0⟩])
      have e0 : (k == 0) = true := by rw [k0]; rfl
      have b1 : (Au.put us).length + (Au.put se).length ≤ 9223372036854775807 := by have := HUL.out.2.2.1; have := HUL.out.2.2.2.1; have := HUL.out.1; have := HUL.out.2.1; omega
      clear k0 hp
      go_wp2_with fail
      (with_reducible refine (HPT.out _ _ lu HT0.out).mono ?_); rintro e w2 ⟨rfl, h2⟩
      have H2 := Lib.hid h2
      clear h2 x0 x1 x2 x3 x4 x5 x6 x7 x8 x9
      go_wp2_with fail
      (with_reducible refine (HPT.out _ _ ls H2.out).mono ?_); rintro e w3 ⟨rfl, h3⟩
      have H3 := Lib.hid h3
      clear h3
      go_wp2_with fail
      try rw [T_append]
      go_ret
      exact ⟨by rw [HF.out]; rfl, TkS.bel H3.out⟩
    have e0 : (k == 0) = false := beq_eq_false_iff_ne.2 k0
    have HF := Lib.hid (show Au.rtext c k a b = [111, 107] from by rw [HDF.out, if_neg (fun h => k0 h.2), if_neg (fun h => k0 h.2), if_neg (fun h => Au.q2 (hp.symm.trans h.1)), if_neg (fun h => k0 h.2), if_neg (fun h => Au.q3 (hp.symm.trans h.1)), if_neg (fun h => Au.q3 (hp.symm.trans h.1))]; rfl)
    clear k0 hp
    go_wp2_with fail
    go_ret
    exact ⟨by rw [HF.out]; rfl, TkS.bel HT0.out⟩
set_option maxRecDepth 20000 in
set_option maxHeartbeats 4000000 in
theorem rspoken_any (c : Cnv) (ao : Option Addr) (m cp : Nat) (p : List UInt8) (w : World) (hk : Atts w (.slice ao m cp) c.key) (hf : Fine c) (hp : Au.known c.proto = true) (hpl : p.length ≤ 1000) :
    Calls Tryz.prog 29 #[.agg #[.int .i64 c.id, .string (T c.proto), .int .i64 c.role, .int .i64 c.phase, .int .i64 c.step, (.slice ao m cp), .string (T c.own), .string (T c.peer), .string (T c.user), .int .i64 c.err], .string (T p)] w fun e w' => e = .returned (.string (T (Au.rspoken c p))) ∧ Below w.heap.size w w' := by
  have HB0 := Lib.hid ((Below.refl w.heap.size w).alloc (Nat.le_refl _) (.cells #[.int .i64 c.id, .string (T c.proto), .int .i64 c.role, .int .i64 c.phase, .int .i64 c.step, (.slice ao m cp), .string (T c.own), .string (T c.peer), .string (T c.user), .int .i64 c.err] 25))
  have HR0 := Lib.hid (heap_alloc_new w (.cells #[.int .i64 c.id, .string (T c.proto), .int .i64 c.role, .int .i64 c.phase, .int .i64 c.step, (.slice ao m cp), .string (T c.own), .string (T c.peer), .string (T c.user), .int .i64 c.err] 25))
  have HTX := Lib.hid (fun (k : Int) (a b : List UInt8) (ha : a.length ≤ 1000) (hb : b.length ≤ 1000) (W : World) (h : Below w.heap.size w W) => rtext_any c ao m cp k a b W (hk.below h) hf hp ha hb)
  have hol := hf.ow
  by_cases hr : c.role = 1
  · have HF := Lib.hid (show Au.rspoken c p = Au.rtext c c.step c.own p from by unfold Au.rspoken; rw [if_pos hr])
    have e1 : (c.role == 1) = true := by rw [hr]; rfl
    have HT1 := Lib.hid (fun W h => HTX.out c.step c.own p hol hpl W h)
    clear hk hf hp hr hol hpl HTX
    go_enter Tryz.func29, Tryz.ntmps29
    go_upto_region 1 with fail
    generalize w.alloc _ = w0 at *
    obtain ⟨⟨x0, x1, x2, x3, x4, x5, x6, x7, x8, x9⟩, _⟩ := cv_reads HR0.out
    go_wp2_with fail
    (with_reducible refine (HT1.out _ HB0.out).mono ?_); rintro e w1 ⟨rfl, b1⟩
    have HB1 := Lib.hid (bnext HB0.out b1)
    clear b1
    go_wp2_with fail
    go_ret
    exact ⟨by rw [HF.out]; rfl, HB1.out⟩
  · have HF := Lib.hid (show Au.rspoken c p = Au.rtext c c.step p c.own from by unfold Au.rspoken; rw [if_neg hr])
    have e1 : (c.role == 1) = false := beq_eq_false_iff_ne.2 hr
    have HT1 := Lib.hid (fun W h => HTX.out c.step p c.own hpl hol W h)
    clear hk hf hp hr hol hpl HTX
    go_enter Tryz.func29, Tryz.ntmps29
    go_upto_region 1 with fail
    generalize w.alloc _ = w0 at *
    obtain ⟨⟨x0, x1, x2, x3, x4, x5, x6, x7, x8, x9⟩, _⟩ := cv_reads HR0.out
    go_wp2_with fail
    (with_reducible refine (HT1.out _ HB0.out).mono ?_); rintro e w1 ⟨rfl, b1⟩
    have HB1 := Lib.hid (bnext HB0.out b1)
    clear b1
    go_wp2_with fail
    go_ret
    exact ⟨by rw [HF.out]; rfl, HB1.out⟩
end Go.Proofs.YtjjdaelddicokaaGreatDoor
set_option linter.unusedVariables false
set_option linter.unusedSimpArgs false
namespace Go.Proofs.YtjjdaelddicokaaGreatDoor
open Go.RowKit
open Au (Att Cnv)
namespace Au
def rlearned (c : Cnv) (s : List UInt8) : List UInt8 × Bool :=
  if rknows c = true ∨ rknows { c with step := c.step + 1 } = false then (c.peer, true) else if c.proto = sMutual ∧ c.role = 2 then rnonce s (2 + (user c.key).length) else rnonce s 0
/-- What a conversation that receives may carry. -/
theorem carry_cases {c : Cnv} (hp : known c.proto = true) (hr : c.role = 1 ∨ c.role = 2) (hs : c.step = 0 ∨ c.step = 1 ∨ c.step = 2) (hn : sends c.proto c.role c.step = false) :
    (carries c c.step = -1 ∧ (rknows c = true ∨ rknows { c with step := c.step + 1 } = false)) ∨
    (rknows c = false ∧ rknows { c with step := c.step + 1 } = true ∧ carries c c.step = if c.proto = sMutual ∧ c.role = 2 then ((put (user c.key)).length : Int) else 0) := by
  obtain ⟨id, proto, role, phase, step, key, own, peer, us, err⟩ := c
  simp only at hp hr hs hn ⊢
  unfold known at hp
  simp only [Bool.or_eq_true, decide_eq_true_eq] at hp
  rcases hp with (rfl | rfl) | rfl <;> rcases hr with rfl | rfl <;> rcases hs with rfl | rfl | rfl
  all_goals first
    | (exfalso; revert hn; simp [sends, even, first, q1, q2, q3, q4, q5, q6]; done)
    | (simp [rknows, carries, q1, q2, q3, q4, q5, q6]; done)
theorem put_length {s : List UInt8} (h : s.length ≤ 65535) : (put s).length = 2 + s.length := by
  unfold put Oct.ptS; rw [if_neg (by omega), List.length_append, Oct.le_length]
/-- A valid conversation that is not done: its step, and no user. -/
theorem Rt.open {c : Cnv} (h : Rt c) (hp : phase c ≠ 3) : (c.step = 0 ∨ c.step = 1 ∨ c.step = 2) ∧ c.user = [] := by
  refine ⟨?_, ?_⟩
  · have h1 := h.st
    have h2 := len_23 c.proto
    have h3 : c.step ≠ len c.proto := fun e => hp (by unfold phase; rw [if_pos e])
    omega
  · rw [h.us]; show (if phase c = 3 then user c.key else []) = []; rw [if_neg hp]
theorem Rt.user32 {c : Cnv} (h : Rt c) : (user c.key).length ≤ 32 := by
  have hk := h.ke
  have h2 := keyE_zero c.key
  rw [decide_eq_true hk] at h2
  have h3 : keyOk c.key = true := by
    cases hx : keyOk c.key
    · rw [hx, Bool.and_false] at h2; exact h2.symm
    · rfl
  unfold keyOk at h3
  simp only [Bool.and_eq_true, decide_eq_true_eq] at h3
  exact h3.1.1.2
theorem rset_next {c : Cnv} (h : Rt c) (hp : phase c ≠ 3) (p : List UInt8) : rsettled { c with peer := p, step := c.step + 1 } = settled { c with peer := p, step := c.step + 1 } := by
  have hu := (h.open hp).2
  have hph : rphase { c with peer := p, step := c.step + 1 } = phase { c with peer := p, step := c.step + 1 } := by
    unfold rphase phase
    have hl : rlen c.proto = len c.proto := by
      have := h.kn
      unfold known at this
      simp only [Bool.or_eq_true, decide_eq_true_eq] at this
      rcases this with (e | e) | e <;> rw [e] <;> decide
    rw [hl]
  unfold rsettled settled
  rw [hph]
  show ({ c with peer := p, step := c.step + 1, phase := _, user := if _ then _ else c.user } : Cnv) = _
  rw [hu]
theorem read_ref {c : Cnv} (h : Rt c) (hp : c.phase = 1) : phase c ≠ 3 ∧ read c = (rsettled { c with step := c.step + 1 }, rspoken c c.peer, 0) := by
  have hq : phase c = 1 := by
    rcases h.ph with ⟨a, _⟩ | ⟨a, _, _⟩ <;> omega
  have h3 : phase c ≠ 3 := by omega
  refine ⟨h3, ?_⟩
  unfold read
  rw [if_pos hp, rspoken_eq h.kn h.ro (h.open h3).1]
  have := rset_next h h3 c.peer
  rw [show ({ c with peer := c.peer, step := c.step + 1 } : Cnv) = { c with step := c.step + 1 } from rfl] at this
  rw [this]
theorem write_ref {c : Cnv} (h : Rt c) (hp : c.phase = 2) (s : List UInt8) : phase c ≠ 3 ∧ write c s = if (rlearned c s).2 = false ∨ rspoken c (rlearned c s).1 ≠ s then ({ c with phase := 4, err := 28 }, 28) else (rsettled { c with peer := (rlearned c s).1, step := c.step + 1 }, 0) := by
  have hq : phase c = 2 := by
    rcases h.ph with ⟨a, _⟩ | ⟨a, _, _⟩ <;> omega
  have h3 : phase c ≠ 3 := by omega
  have hs3 := (h.open h3).1
  have hse := (phase_two hq).2
  refine ⟨h3, ?_⟩
  rw [rset_next h h3]
  unfold write
  rw [if_pos hp]
  rcases carry_cases h.kn h.ro hs3 hse with ⟨hc, hk⟩ | ⟨k1, k2, hc⟩
  · have hl : learn c s = c := by unfold learn; rw [if_neg (by omega)]
    have hr : rlearned c s = (c.peer, true) := by unfold rlearned; rw [if_pos hk]
    rw [hl, hr, hc, rspoken_eq h.kn h.ro hs3]
    by_cases e : msg c c.step ≠ s
    · rw [if_pos (.inr e), if_pos (.inr e)]
    · rw [if_neg (fun x => by rcases x with x | x; omega; exact e x), if_neg (fun x => by rcases x with x | x; cases x; exact e x)]
  · have hpe : c.peer = [] := by
      have := h.pk
      rw [knows_eq h.kn h.ro h.st3, k1, if_neg (by decide)] at this
      exact this
    obtain ⟨n, hn, hr⟩ : ∃ n : Nat, carries c c.step = n ∧ rlearned c s = rnonce s n := by
      unfold rlearned
      rw [if_neg (fun x => by rcases x with x | x; rw [k1] at x; cases x; rw [k2] at x; cases x)]
      by_cases hm : c.proto = sMutual ∧ c.role = 2
      · rw [if_pos hm] at hc ⊢
        exact ⟨_, by rw [hc, put_length (by have := h.user32; omega)], rfl⟩
      · rw [if_neg hm] at hc ⊢
        exact ⟨0, hc, rfl⟩
    rw [hr, hn]
    by_cases hl : s.length < n + 32
    · have e1 : learn c s = c := by unfold learn; rw [if_neg (by rw [hn]; omega)]
      have e2 : rnonce s n = ([], false) := by unfold rnonce; rw [if_pos hl]
      rw [e1, e2, if_pos (.inl ⟨by omega, by rw [hpe]; decide⟩), if_pos (.inl rfl)]
    · have e1 : learn c s = { c with peer := (s.drop n).take 32 } := by unfold learn; rw [if_pos (by rw [hn]; omega), hn]; rfl
      have e2 : rnonce s n = ((s.drop n).take 32, true) := by unfold rnonce; rw [if_neg hl]
      have e3 : ((s.drop n).take 32).length = 32 := by rw [List.length_take, List.length_drop]; omega
      rw [e1, e2, rspoken_eq h.kn h.ro hs3]
      by_cases e : msg { c with peer := (s.drop n).take 32 } c.step ≠ s
      · rw [if_pos (.inr e), if_pos (.inr e)]
      · rw [if_neg (fun x => by rcases x with x | x; exact x.2 e3; exact e x), if_neg (fun x => by rcases x with x | x; cases x; exact e x)]
end Au
set_option maxHeartbeats 2000000 in
theorem rnonce_any (s : List UInt8) (n : Nat) (w : World) (hs : s.length ≤ 1000000) (hn : n ≤ 1000000) :
    Calls Tryz.prog 55 #[.string (T s), .int .i64 (n : Int)] w fun e w' => e = .returned (.tuple #[.string (T (Au.rnonce s n).1), .bool (Au.rnonce s n).2]) ∧ w = w' := by
  by_cases h1 : s.length < n
  · have HF := Lib.hid (show Au.rnonce s n = ([], false) from by unfold Au.rnonce; rw [if_pos (by omega)])
    have e1 : s.length < n := h1
    clear h1
    go_enter Tryz.func55, Tryz.ntmps55
    go_wp2_with fail
    go_ret2
    exact ⟨by rw [HF.out]; rfl, rfl⟩
  · have e1 : decide (s.length < n) = false := decide_eq_false (by omega)
    by_cases h2 : s.length < n + 32
    · have HF := Lib.hid (show Au.rnonce s n = ([], false) from by unfold Au.rnonce; rw [if_pos h2])
      have e2 : (s.length : Int) - (n : Int) < 32 := by omega
      clear h1 h2
      go_enter Tryz.func55, Tryz.ntmps55
      go_wp2_with fail
      go_ret2
      exact ⟨by rw [HF.out]; rfl, rfl⟩
    · have HF := Lib.hid (show Au.rnonce s n = ((s.drop n).take 32, true) from by unfold Au.rnonce; rw [if_neg h2])
      have e2 : decide ((s.length : Int) - (n : Int) < 32) = false := decide_eq_false (by omega)
      have e3 : (n : Int) + 32 ≤ (s.length : Int) := by omega
      have hex : (T s).extract n (n + 32) = T ((s.drop n).take 32) := by rw [extract_TA, T_list, show n + 32 - n = 32 from by omega]
      clear h1 h2
      go_enter Tryz.func55, Tryz.ntmps55
      go_wp2_with fail
      go_ret2
      refine ⟨?_, rfl⟩
      rw [HF.out]
      show _ = Ending.returned (Value.tuple #[.string (T ((s.drop n).take 32)), .bool true])
      rw [← hex]
      rfl
set_option maxRecDepth 20000 in
set_option maxHeartbeats 4000000 in
theorem rlearned_any (c : Cnv) (s : List UInt8) (ao : Option Addr) (m cp : Nat) (w : World) (hk : Atts w (.slice ao m cp) c.key) (hf : Fine c) (hst : 0 ≤ c.step ∧ c.step ≤ 1000) (hs : s.length ≤ 100000) :
    Calls Tryz.prog 38 #[.agg #[.int .i64 c.id, .string (T c.proto), .int .i64 c.role, .int .i64 c.phase, .int .i64 c.step, (.slice ao m cp), .string (T c.own), .string (T c.peer), .string (T c.user), .int .i64 c.err], .string (T s)] w fun e w' => e = .returned (.tuple #[.string (T (Au.rlearned c s).1), .bool (Au.rlearned c s).2]) ∧ Below w.heap.size w w' := by
  have HRW := Lib.hid (two_rows w (.cells #[.int .i64 c.id, .string (T c.proto), .int .i64 c.role, .int .i64 c.phase, .int .i64 c.step, (.slice ao m cp), .string (T c.own), .string (T c.peer), .string (T c.user), .int .i64 c.err] 25) (.cells #[.int .i64 c.id, .string (T c.proto), .int .i64 c.role, .int .i64 c.phase, .int .i64 (c.step + 1), (.slice ao m cp), .string (T c.own), .string (T c.peer), .string (T c.user), .int .i64 c.err] 25))
  have HB0 := Lib.hid (((Below.refl w.heap.size w).alloc (Nat.le_refl _) (.cells #[.int .i64 c.id, .string (T c.proto), .int .i64 c.role, .int .i64 c.phase, .int .i64 c.step, (.slice ao m cp), .string (T c.own), .string (T c.peer), .string (T c.user), .int .i64 c.err] 25)).alloc (by simp) (.cells #[.int .i64 c.id, .string (T c.proto), .int .i64 c.role, .int .i64 c.phase, .int .i64 (c.step + 1), (.slice ao m cp), .string (T c.own), .string (T c.peer), .string (T c.user), .int .i64 c.err] 25))
  have HK1 := Lib.hid (fun (W : World) => rknows_any c ao m cp W)
  have HK2 := Lib.hid (fun (W : World) => show Calls Tryz.prog 21 #[.agg #[.int .i64 c.id, .string (T c.proto), .int .i64 c.role, .int .i64 c.phase, .int .i64 (c.step + 1), (.slice ao m cp), .string (T c.own), .string (T c.peer), .string (T c.user), .int .i64 c.err]] W fun e w' => e = .returned (.bool (Au.rknows { c with step := c.step + 1 })) ∧ Below W.heap.size W w' from rknows_any { c with step := c.step + 1 } ao m cp W)
  have HU := Lib.hid (fun (W : World) (h : Below w.heap.size w W) => ruser_any (.slice ao m cp) c.key W (hk.below h) (by have := hf.kl; omega))
  have hul : (Au.user c.key).length ≤ 1000 := hf.find Au.sUser
  have HN1 := Lib.hid (fun (W : World) => rnonce_any s (2 + (Au.user c.key).length) W (by omega) (by omega))
  have HN0 := Lib.hid (fun (W : World) => show Calls Tryz.prog 55 #[.string (T s), .int .i64 0] W fun e w' => e = .returned (.tuple #[.string (T (Au.rnonce s 0).1), .bool (Au.rnonce s 0).2]) ∧ W = w' from rnonce_any s 0 W (by omega) (by omega))
  have HDF := Lib.hid (show Au.rlearned c s = (if Au.rknows c = true ∨ Au.rknows { c with step := c.step + 1 } = false then (c.peer, true) else if c.proto = Au.sMutual ∧ c.role = 2 then Au.rnonce s (2 + (Au.user c.key).length) else Au.rnonce s 0) from rfl)
  clear hk hf
  generalize Au.rknows c = k1 at *
  generalize Au.rknows { c with step := c.step + 1 } = k2 at *
  generalize Au.user c.key = us at *
  generalize Au.rlearned c s = R at *
  have huc : ((2 + us.length : Nat) : Int) = 2 + (us.length : Int) := by omega
  rw [huc] at HN1
  clear huc
  go_enter Tryz.func38, Tryz.ntmps38
  go_upto_region 3 with fail
  generalize World.alloc _ _ = w0 at *
  obtain ⟨⟨x0, x1, x2, x3, x4, x5, x6, x7, x8, x9⟩, _⟩ := cv_reads HRW.out.1
  go_wp2_with fail
  (with_reducible refine (HK1.out _).mono ?_); rintro e w1 ⟨rfl, b1⟩
  have HB1 := Lib.hid (bnext HB0.out b1)
  have HR1 := Lib.hid (⟨(b1.block _ (row_ltA HRW.out.1)).trans HRW.out.1, (b1.block _ (row_ltA HRW.out.2)).trans HRW.out.2⟩ : _ ∧ _)
  clear b1 x0 x1 x2 x3 x4 x5 x6 x7 x8 x9
  obtain ⟨⟨x0, x1, x2, x3, x4, x5, x6, x7, x8, x9⟩, _⟩ := cv_reads HR1.out.1
  cases k1 with
  | true =>
    obtain rfl : R = (c.peer, true) := by rw [HDF.out, if_pos (.inl rfl)]
    go_wp2_with fail
    go_ret2
    exact ⟨rfl, HB1.out⟩
  | false =>
    obtain ⟨⟨z0, z1, z2, z3, z4, z5, z6, z7, z8, z9⟩, _⟩ := cv_readsZ HR1.out.2
    go_wp2_with fail
    (with_reducible refine (HK2.out _).mono ?_); rintro e w2 ⟨rfl, b2⟩
    have HB2 := Lib.hid (bnext HB1.out b2)
    have HR2 := Lib.hid ((b2.block _ (row_ltA HR1.out.1)).trans HR1.out.1)
    clear b2 x0 x1 x2 x3 x4 x5 x6 x7 x8 x9 z0 z1 z2 z3 z4 z5 z6 z7 z8 z9
    obtain ⟨⟨x0, x1, x2, x3, x4, x5, x6, x7, x8, x9⟩, _⟩ := cv_reads HR2.out
    cases k2 with
    | false =>
      obtain rfl : R = (c.peer, true) := by rw [HDF.out, if_pos (.inr rfl)]
      go_wp2_with fail
      go_ret2
      exact ⟨rfl, HB2.out⟩
    | true =>
      have HD2 := Lib.hid (HDF.out.trans (if_neg (by simp)))
      by_cases hm : c.proto = Au.sMutual
      · have e1 : (c.proto == [109, 117, 116, 117, 97, 108]) = true := seq_yes hm
        by_cases hr : c.role = 2
        · have e2 : (c.role == 2) = true := by rw [hr]; rfl
          have HD3 := Lib.hid (HD2.out.trans (if_pos ⟨hm, hr⟩))
          clear hm hr
          go_wp2_with fail
          (with_reducible refine (HU.out _ HB2.out).mono ?_); rintro e w3 ⟨rfl, b3⟩
          have HB3 := Lib.hid (bnext HB2.out b3)
          clear b3
          go_wp2_with fail
          (with_reducible refine (HN1.out _).mono ?_); rintro e w4 ⟨rfl, rfl⟩
          go_wp2_with fail
          go_ret2
          exact ⟨by rw [HD3.out]; rfl, HB3.out⟩
        · have e2 : (c.role == 2) = false := beq_eq_false_iff_ne.2 hr
          have HD3 := Lib.hid (HD2.out.trans (if_neg (fun h => hr h.2)))
          clear hm hr
          go_wp2_with fail
          (with_reducible refine (HN0.out _).mono ?_); rintro e w4 ⟨rfl, rfl⟩
          go_wp2_with fail
          go_ret2
          exact ⟨by rw [HD3.out]; rfl, HB2.out⟩
      · have e1 : (c.proto == [109, 117, 116, 117, 97, 108]) = false := seq_no hm
        have HD3 := Lib.hid (HD2.out.trans (if_neg (fun h => hm h.1)))
        clear hm
        go_wp2_with fail
        (with_reducible refine (HN0.out _).mono ?_); rintro e w4 ⟨rfl, rfl⟩
        go_wp2_with fail
        go_ret2
        exact ⟨by rw [HD3.out]; rfl, HB2.out⟩
/-- What the reference's Read and Write hand back: the slice of the key is the argument's. -/
def RrR (w : World) (R : Cnv) (t : List UInt8) (er : Int) (ao : Option Addr) (m cp : Nat) (e : Ending) (w' : World) : Prop :=
  e = .returned (.tuple #[.agg #[.int .i64 R.id, .string (T R.proto), .int .i64 R.role, .int .i64 R.phase, .int .i64 R.step, (.slice ao m cp), .string (T R.own), .string (T R.peer), .string (T R.user), .int .i64 R.err], .string (T t), .int .i64 er]) ∧ Atts w' (.slice ao m cp) R.key ∧ Below w.heap.size w w'
def RwR (w : World) (R : Cnv) (er : Int) (ao : Option Addr) (m cp : Nat) (e : Ending) (w' : World) : Prop :=
  e = .returned (.tuple #[.agg #[.int .i64 R.id, .string (T R.proto), .int .i64 R.role, .int .i64 R.phase, .int .i64 R.step, (.slice ao m cp), .string (T R.own), .string (T R.peer), .string (T R.user), .int .i64 R.err], .int .i64 er]) ∧ Atts w' (.slice ao m cp) R.key ∧ Below w.heap.size w w'
theorem below_set10z {w W : World} {g : Nat} (h : Below w.heap.size w W) (hg : w.heap.size ≤ g) {W' : World} (hq : W.grownBy W' (some g)) : Below w.heap.size w W' := grown_below h hq hg
set_option maxRecDepth 20000 in
set_option maxHeartbeats 8000000 in
theorem rread_any (c : Cnv) (R : Cnv) (t : List UInt8) (er : Int) (h : Au.read c = (R, t, er)) (hrt : Au.Rt c) (ao : Option Addr) (m cp : Nat) (w : World) (hk : Atts w (.slice ao m cp) c.key) (hf : Fine c) :
    Calls Tryz.prog 9 #[.agg #[.int .i64 c.id, .string (T c.proto), .int .i64 c.role, .int .i64 c.phase, .int .i64 c.step, (.slice ao m cp), .string (T c.own), .string (T c.peer), .string (T c.user), .int .i64 c.err]] w (RrR w R t er ao m cp) := by
  have HRW := Lib.hid (two_rows w (.cells #[.int .i64 c.id, .string (T c.proto), .int .i64 c.role, .int .i64 c.phase, .int .i64 c.step, (.slice ao m cp), .string (T c.own), .string (T c.peer), .string (T c.user), .int .i64 c.err] 25) (.cells #[.int .i64 0, .string (T []), .int .i64 0, .int .i64 0, .int .i64 0, .slice none 0 0, .string (T []), .string (T []), .string (T []), .int .i64 0] 25))
  have HB0 := Lib.hid (((Below.refl w.heap.size w).alloc (Nat.le_refl _) (.cells #[.int .i64 c.id, .string (T c.proto), .int .i64 c.role, .int .i64 c.phase, .int .i64 c.step, (.slice ao m cp), .string (T c.own), .string (T c.peer), .string (T c.user), .int .i64 c.err] 25)).alloc (by simp) (.cells #[.int .i64 0, .string (T []), .int .i64 0, .int .i64 0, .int .i64 0, .slice none 0 0, .string (T []), .string (T []), .string (T []), .int .i64 0] 25))
  have HAT := Lib.hid (fun (W : World) (h : Below w.heap.size w W) => hk.below h)
  by_cases hp : c.phase = 1
  rotate_left
  · have e1 : (c.phase != 1) = true := by simpa using hp
    obtain ⟨rfl, rfl, rfl⟩ : R = c ∧ t = [] ∧ er = 53 := by
      unfold Au.read at h; rw [if_neg hp] at h; exact ⟨(Prod.mk.inj h).1.symm, (Prod.mk.inj (Prod.mk.inj h).2).1.symm, (Prod.mk.inj (Prod.mk.inj h).2).2.symm⟩
    clear h hrt hk hf hp
    go_enter Tryz.func9, Tryz.ntmps9
    go_upto_region 1 with fail
    generalize World.alloc _ _ = w0 at *
    obtain ⟨⟨x0, x1, x2, x3, x4, x5, x6, x7, x8, x9⟩, _⟩ := cv_reads HRW.out.1
    obtain ⟨⟨z0, z1, z2, z3, z4, z5, z6, z7, z8, z9⟩, ⟨u0, u1, u2, u3, u4, u5, u6, u7, u8, u9⟩⟩ := cv_readsZ HRW.out.2
    go_wp2_with fail
    have hq := cv_stored (.int .i64 R.id) (.string (T R.proto)) (.int .i64 R.role) (.int .i64 R.phase) (.int .i64 R.step) ((.slice ao m cp)) (.string (T R.own)) (.string (T R.peer)) (.string (T R.user)) (.int .i64 R.err) HRW.out.2
    obtain ⟨⟨q0, q1, q2, q3, q4, q5, q6, q7, q8, q9⟩, _⟩ := cv_readsZ hq.1
    have hB := below_set10z HB0.out (by omega) hq.2
    exact bodyPost_ret (v := .tuple #[.agg #[.int .i64 R.id, .string (T R.proto), .int .i64 R.role, .int .i64 R.phase, .int .i64 R.step, (.slice ao m cp), .string (T R.own), .string (T R.peer), .string (T R.user), .int .i64 R.err], .string (T []), .int .i64 53]) (by simp [results, Tryz.results9, go_sem, q0, q1, q2, q3, q4, q5, q6, q7, q8, q9]) rfl ⟨rfl, HAT.out _ hB, hB⟩
  have e1 : (c.phase != 1) = false := by rw [hp]; rfl
  obtain ⟨h3, hrd⟩ := Au.read_ref hrt hp
  rw [hrd] at h
  obtain ⟨rfl, rfl, rfl⟩ : R = Au.rsettled { c with step := c.step + 1 } ∧ t = Au.rspoken c c.peer ∧ er = 0 := ⟨(Prod.mk.inj h).1.symm, (Prod.mk.inj (Prod.mk.inj h).2).1.symm, (Prod.mk.inj (Prod.mk.inj h).2).2.symm⟩
  have hs0 := hrt.st3
  have HSP := Lib.hid (fun (W : World) (h : Below w.heap.size w W) => rspoken_any c ao m cp c.peer W (hk.below h) hf hrt.kn hf.pe)
  have HNE := Lib.hid (show ∀ q, ao = some q → c.key ≠ [] → q.block < w.heap.size from fun q hq hn => by
    obtain ⟨_, hc⟩ := hk.at
    obtain ⟨b, off, ha, hlt, _⟩ := hc 0 (List.length_pos_iff.2 hn)
    rw [hq] at ha; cases ha; exact hlt)
  have HSE := Lib.hid (fun (W : World) (h : Atts W (.slice ao m cp) c.key) => show Calls Tryz.prog 30 #[.agg #[.int .i64 c.id, .string (T c.proto), .int .i64 c.role, .int .i64 c.phase, .int .i64 (c.step + 1), (.slice ao m cp), .string (T c.own), .string (T c.peer), .string (T c.user), .int .i64 c.err]] W fun e w' => e = .returned (.agg #[.int .i64 (Au.rsettled { c with step := c.step + 1 }).id, .string (T (Au.rsettled { c with step := c.step + 1 }).proto), .int .i64 (Au.rsettled { c with step := c.step + 1 }).role, .int .i64 (Au.rsettled { c with step := c.step + 1 }).phase, .int .i64 (Au.rsettled { c with step := c.step + 1 }).step, (.slice ao m cp), .string (T (Au.rsettled { c with step := c.step + 1 }).own), .string (T (Au.rsettled { c with step := c.step + 1 }).peer), .string (T (Au.rsettled { c with step := c.step + 1 }).user), .int .i64 (Au.rsettled { c with step := c.step + 1 }).err]) ∧ Below W.heap.size W w' from rsettled_any { c with step := c.step + 1 } ao m cp W h ⟨hf.kl, hf.kf, hf.ow, hf.pe⟩)
  have hkey : (Au.rsettled { c with step := c.step + 1 }).key = c.key := rfl
  clear h hrd h3 hk hf hp hrt
  unfold RrR
  rw [hkey]
  generalize Au.rsettled { c with step := c.step + 1 } = R at *
  generalize Au.rspoken c c.peer = t at *
  clear hkey
  go_enter Tryz.func9, Tryz.ntmps9
  go_upto_region 1 with fail
  generalize World.alloc _ _ = w0 at *
  obtain ⟨⟨x0, x1, x2, x3, x4, x5, x6, x7, x8, x9⟩, _⟩ := cv_reads HRW.out.1
  go_wp2_with fail
  (with_reducible refine (HSP.out _ HB0.out).mono ?_); rintro e w1 ⟨rfl, b1⟩
  have hr1 := (b1.block _ (row_ltA HRW.out.1)).trans HRW.out.1
  have hz1 := (b1.block _ (row_ltA HRW.out.2)).trans HRW.out.2
  have HGS := Lib.hid (grown_set (grown_refl w1 w.heap.size) 4 (.int .i64 (c.step + 1)))
  have HRS := Lib.hid (heap_setCell_same w1 w.heap.size 4 _ _ (.int .i64 (c.step + 1)) hr1)
  have HZS := Lib.hid (grown_keep HGS.out hz1 (by omega))
  have HBS := Lib.hid (grown_below (bnext HB0.out b1) HGS.out (Nat.le_refl _))
  have HATS := Lib.hid (atts_keep (HAT.out w1 (bnext HB0.out b1)) HGS.out (fun q hq hn => by have := HNE.out q hq hn; omega))
  clear x0 x1 x2 x3 x4 x5 x6 x7 x8 x9
  obtain ⟨⟨x0, x1, x2, x3, x4, x5, x6, x7, x8, x9⟩, ⟨y0, y1, y2, y3, y4, y5, y6, y7, y8, y9⟩⟩ := cv_readsZ hr1
  clear b1 hr1 hz1
  go_wp2_with fail
  (with_reducible refine (HSE.out _ HATS.out).mono ?_); rintro e w2 ⟨rfl, b2⟩
  have hz2 := (b2.block _ (row_ltA HZS.out)).trans HZS.out
  have HB2 := Lib.hid (bnext HBS.out b2)
  have HZ2 := Lib.hid hz2
  clear x0 x1 x2 x3 x4 x5 x6 x7 x8 x9 y0 y1 y2 y3 y4 y5 y6 y7 y8 y9 b2
  obtain ⟨⟨z0, z1, z2, z3, z4, z5, z6, z7, z8, z9⟩, ⟨u0, u1, u2, u3, u4, u5, u6, u7, u8, u9⟩⟩ := cv_readsZ hz2
  clear hz2
  go_wp2_with fail
  have hq := cv_stored (.int .i64 R.id) (.string (T R.proto)) (.int .i64 R.role) (.int .i64 R.phase) (.int .i64 R.step) ((.slice ao m cp)) (.string (T R.own)) (.string (T R.peer)) (.string (T R.user)) (.int .i64 R.err) HZ2.out
  obtain ⟨⟨q0, q1, q2, q3, q4, q5, q6, q7, q8, q9⟩, _⟩ := cv_readsZ hq.1
  have hB := below_set10z HB2.out (by omega) hq.2
  exact bodyPost_ret (v := .tuple #[.agg #[.int .i64 R.id, .string (T R.proto), .int .i64 R.role, .int .i64 R.phase, .int .i64 R.step, (.slice ao m cp), .string (T R.own), .string (T R.peer), .string (T R.user), .int .i64 R.err], .string (T t), .int .i64 0]) (by simp [results, Tryz.results9, go_sem, q0, q1, q2, q3, q4, q5, q6, q7, q8, q9]) rfl ⟨rfl, HAT.out _ hB, hB⟩
theorem rdone_any (c : Cnv) (u : List UInt8) (ok : Bool) (h : Au.done c = (u, ok)) (ao : Option Addr) (m cp : Nat) (w : World) :
    Calls Tryz.prog 15 #[.agg #[.int .i64 c.id, .string (T c.proto), .int .i64 c.role, .int .i64 c.phase, .int .i64 c.step, (.slice ao m cp), .string (T c.own), .string (T c.peer), .string (T c.user), .int .i64 c.err]] w fun e w' => e = .returned (.tuple #[.string (T u), .bool ok]) ∧ Below w.heap.size w w' := by
  have HB0 := Lib.hid ((Below.refl w.heap.size w).alloc (Nat.le_refl _) (.cells #[.int .i64 c.id, .string (T c.proto), .int .i64 c.role, .int .i64 c.phase, .int .i64 c.step, (.slice ao m cp), .string (T c.own), .string (T c.peer), .string (T c.user), .int .i64 c.err] 25))
  have HR0 := Lib.hid (heap_alloc_new w (.cells #[.int .i64 c.id, .string (T c.proto), .int .i64 c.role, .int .i64 c.phase, .int .i64 c.step, (.slice ao m cp), .string (T c.own), .string (T c.peer), .string (T c.user), .int .i64 c.err] 25))
  unfold Au.done at h
  by_cases hp : c.phase = 3
  · have e1 : (c.phase != 3) = false := by rw [hp]; rfl
    rw [if_pos hp] at h
    obtain ⟨rfl, rfl⟩ : u = c.user ∧ ok = true := ⟨(Prod.mk.inj h).1.symm, (Prod.mk.inj h).2.symm⟩
    clear h hp
    go_enter Tryz.func15, Tryz.ntmps15
    go_upto_region 1 with fail
    generalize w.alloc _ = w0 at *
    obtain ⟨⟨x0, x1, x2, x3, x4, x5, x6, x7, x8, x9⟩, _⟩ := cv_reads HR0.out
    go_wp2_with fail
    go_ret2
    exact ⟨rfl, HB0.out⟩
  · have e1 : (c.phase != 3) = true := by simpa using hp
    rw [if_neg hp] at h
    obtain ⟨rfl, rfl⟩ : u = [] ∧ ok = false := ⟨(Prod.mk.inj h).1.symm, (Prod.mk.inj h).2.symm⟩
    clear h hp
    go_enter Tryz.func15, Tryz.ntmps15
    go_upto_region 1 with fail
    generalize w.alloc _ = w0 at *
    obtain ⟨⟨x0, x1, x2, x3, x4, x5, x6, x7, x8, x9⟩, _⟩ := cv_reads HR0.out
    go_wp2_with fail
    go_ret2
    exact ⟨rfl, HB0.out⟩
set_option maxRecDepth 20000 in
set_option maxHeartbeats 8000000 in
theorem rwrite_any (c : Cnv) (s : List UInt8) (R : Cnv) (er : Int) (h : Au.write c s = (R, er)) (hrt : Au.Rt c) (ao : Option Addr) (m cp : Nat) (w : World) (hk : Atts w (.slice ao m cp) c.key) (hf : Fine c) (hs : s.length ≤ 100000) :
    Calls Tryz.prog 13 #[.agg #[.int .i64 c.id, .string (T c.proto), .int .i64 c.role, .int .i64 c.phase, .int .i64 c.step, (.slice ao m cp), .string (T c.own), .string (T c.peer), .string (T c.user), .int .i64 c.err], .string (T s)] w (RwR w R er ao m cp) := by
  have HRW := Lib.hid (two_rows w (.cells #[.int .i64 c.id, .string (T c.proto), .int .i64 c.role, .int .i64 c.phase, .int .i64 c.step, (.slice ao m cp), .string (T c.own), .string (T c.peer), .string (T c.user), .int .i64 c.err] 25) (.cells #[.int .i64 0, .string (T []), .int .i64 0, .int .i64 0, .int .i64 0, .slice none 0 0, .string (T []), .string (T []), .string (T []), .int .i64 0] 25))
  have HB0 := Lib.hid (((Below.refl w.heap.size w).alloc (Nat.le_refl _) (.cells #[.int .i64 c.id, .string (T c.proto), .int .i64 c.role, .int .i64 c.phase, .int .i64 c.step, (.slice ao m cp), .string (T c.own), .string (T c.peer), .string (T c.user), .int .i64 c.err] 25)).alloc (by simp) (.cells #[.int .i64 0, .string (T []), .int .i64 0, .int .i64 0, .int .i64 0, .slice none 0 0, .string (T []), .string (T []), .string (T []), .int .i64 0] 25))
  have HAT := Lib.hid (fun (W : World) (h : Below w.heap.size w W) => hk.below h)
  by_cases hp : c.phase = 2
  rotate_left
  · have e1 : (c.phase != 2) = true := by simpa using hp
    obtain ⟨rfl, rfl⟩ : R = c ∧ er = 53 := by
      unfold Au.write at h; rw [if_neg hp] at h; exact ⟨(Prod.mk.inj h).1.symm, (Prod.mk.inj h).2.symm⟩
    clear h hrt hk hf hp
    go_enter Tryz.func13, Tryz.ntmps13
    go_upto_region 1 with fail
    generalize World.alloc _ _ = w0 at *
    obtain ⟨⟨x0, x1, x2, x3, x4, x5, x6, x7, x8, x9⟩, _⟩ := cv_reads HRW.out.1
    obtain ⟨⟨z0, z1, z2, z3, z4, z5, z6, z7, z8, z9⟩, ⟨u0, u1, u2, u3, u4, u5, u6, u7, u8, u9⟩⟩ := cv_readsZ HRW.out.2
    go_wp2_with fail
    have hq := cv_stored (.int .i64 R.id) (.string (T R.proto)) (.int .i64 R.role) (.int .i64 R.phase) (.int .i64 R.step) ((.slice ao m cp)) (.string (T R.own)) (.string (T R.peer)) (.string (T R.user)) (.int .i64 R.err) HRW.out.2
    obtain ⟨⟨q0, q1, q2, q3, q4, q5, q6, q7, q8, q9⟩, _⟩ := cv_readsZ hq.1
    have hB := below_set10z HB0.out (by omega) hq.2
    exact bodyPost_ret (v := .tuple #[.agg #[.int .i64 R.id, .string (T R.proto), .int .i64 R.role, .int .i64 R.phase, .int .i64 R.step, (.slice ao m cp), .string (T R.own), .string (T R.peer), .string (T R.user), .int .i64 R.err], .int .i64 53]) (by simp [results, Tryz.results13, go_sem, q0, q1, q2, q3, q4, q5, q6, q7, q8, q9]) rfl ⟨rfl, HAT.out _ hB, hB⟩
  have e1 : (c.phase != 2) = false := by rw [hp]; rfl
  obtain ⟨h3, hwr⟩ := Au.write_ref hrt hp s
  rw [hwr] at h
  have hs0 := hrt.st3
  have HLR := Lib.hid (fun (W : World) (h : Below w.heap.size w W) => rlearned_any c s ao m cp W (hk.below h) hf ⟨hs0.1, by omega⟩ hs)
  have hpl : (Au.rlearned c s).1.length ≤ 1000 := by
    have hn : ∀ n, (Au.rnonce s n).1.length ≤ 1000 := fun n => by
      unfold Au.rnonce
      split
      · exact Nat.zero_le _
      · show ((s.drop n).take 32).length ≤ 1000
        rw [List.length_take]; omega
    unfold Au.rlearned
    split
    · exact hf.pe
    · split <;> exact hn _
  generalize Au.rlearned c s = L at *
  obtain ⟨p, ok⟩ := L
  have HSP := Lib.hid (fun (W : World) (h : Below w.heap.size w W) => rspoken_any c ao m cp p W (hk.below h) hf hrt.kn hpl)
  have HNE := Lib.hid (show ∀ q, ao = some q → c.key ≠ [] → q.block < w.heap.size from fun q hq hn => by
    obtain ⟨_, hc⟩ := hk.at
    obtain ⟨b, off, ha, hlt, _⟩ := hc 0 (List.length_pos_iff.2 hn)
    rw [hq] at ha; cases ha; exact hlt)
  have HSE := Lib.hid (fun (W : World) (h : Atts W (.slice ao m cp) c.key) => show Calls Tryz.prog 30 #[.agg #[.int .i64 c.id, .string (T c.proto), .int .i64 c.role, .int .i64 c.phase, .int .i64 (c.step + 1), (.slice ao m cp), .string (T c.own), .string (T p), .string (T c.user), .int .i64 c.err]] W fun e w' => e = .returned (.agg #[.int .i64 (Au.rsettled { c with peer := p, step := c.step + 1 }).id, .string (T (Au.rsettled { c with peer := p, step := c.step + 1 }).proto), .int .i64 (Au.rsettled { c with peer := p, step := c.step + 1 }).role, .int .i64 (Au.rsettled { c with peer := p, step := c.step + 1 }).phase, .int .i64 (Au.rsettled { c with peer := p, step := c.step + 1 }).step, (.slice ao m cp), .string (T (Au.rsettled { c with peer := p, step := c.step + 1 }).own), .string (T (Au.rsettled { c with peer := p, step := c.step + 1 }).peer), .string (T (Au.rsettled { c with peer := p, step := c.step + 1 }).user), .int .i64 (Au.rsettled { c with peer := p, step := c.step + 1 }).err]) ∧ Below W.heap.size W w' from rsettled_any { c with peer := p, step := c.step + 1 } ao m cp W h ⟨hf.kl, hf.kf, hf.ow, hpl⟩)
  have hkey : (Au.rsettled { c with peer := p, step := c.step + 1 }).key = c.key := rfl
  simp only at h
  clear hwr h3 hk hf hp hrt hpl
  generalize Au.rspoken c p = sp at *
  generalize Au.rsettled { c with peer := p, step := c.step + 1 } = N at *
  unfold RwR
  by_cases hbad : ok = false ∨ sp ≠ s
  · rw [if_pos hbad] at h
    obtain ⟨rfl, rfl⟩ : R = { c with phase := 4, err := 28 } ∧ er = 28 := ⟨(Prod.mk.inj h).1.symm, (Prod.mk.inj h).2.symm⟩
    clear h HSE hkey
    go_enter Tryz.func13, Tryz.ntmps13
    go_upto_region 1 with fail
    generalize World.alloc _ _ = w0 at *
    obtain ⟨⟨x0, x1, x2, x3, x4, x5, x6, x7, x8, x9⟩, _⟩ := cv_reads HRW.out.1
    go_wp2_with fail
    (with_reducible refine (HLR.out _ HB0.out).mono ?_); rintro e w1 ⟨rfl, b1⟩
    have HB1 := Lib.hid (bnext HB0.out b1)
    have HR1 := Lib.hid ((b1.block _ (row_ltA HRW.out.1)).trans HRW.out.1)
    have HZ1 := Lib.hid ((b1.block _ (row_ltA HRW.out.2)).trans HRW.out.2)
    clear b1 x0 x1 x2 x3 x4 x5 x6 x7 x8 x9
    obtain ⟨⟨x0, x1, x2, x3, x4, x5, x6, x7, x8, x9⟩, ⟨y0, y1, y2, y3, y4, y5, y6, y7, y8, y9⟩⟩ := cv_readsZ HR1.out
    obtain ⟨⟨z0, z1, z2, z3, z4, z5, z6, z7, z8, z9⟩, ⟨u0, u1, u2, u3, u4, u5, u6, u7, u8, u9⟩⟩ := cv_readsZ HZ1.out
    cases ok with
    | false =>
      clear hbad
      have HG := Lib.hid (grown_set (grown_set (grown_refl w1 w.heap.size) 3 (.int .i64 4)) 9 (.int .i64 28))
      have HZ2 := Lib.hid (grown_keep HG.out HZ1.out (by omega))
      have HB2 := Lib.hid (grown_below HB1.out HG.out (Nat.le_refl _))
      go_wp2_with fail
      have hq := cv_stored (.int .i64 c.id) (.string (T c.proto)) (.int .i64 c.role) (.int .i64 4) (.int .i64 c.step) ((.slice ao m cp)) (.string (T c.own)) (.string (T c.peer)) (.string (T c.user)) (.int .i64 28) HZ2.out
      obtain ⟨⟨q0, q1, q2, q3, q4, q5, q6, q7, q8, q9⟩, _⟩ := cv_readsZ hq.1
      have hB := below_set10z HB2.out (by omega) hq.2
      exact bodyPost_ret (v := .tuple #[.agg #[.int .i64 c.id, .string (T c.proto), .int .i64 c.role, .int .i64 4, .int .i64 c.step, (.slice ao m cp), .string (T c.own), .string (T c.peer), .string (T c.user), .int .i64 28], .int .i64 28]) (by simp [results, Tryz.results13, go_sem, q0, q1, q2, q3, q4, q5, q6, q7, q8, q9]) rfl ⟨rfl, HAT.out _ hB, hB⟩
    | true =>
      have e2 : (sp == s) = false := seq_no (by rcases hbad with h | h; cases h; exact h)
      clear hbad
      go_wp2_with fail
      (with_reducible refine (HSP.out _ HB1.out).mono ?_); rintro e w2 ⟨rfl, b2⟩
      have HB2 := Lib.hid (bnext HB1.out b2)
      have HR2 := Lib.hid ((b2.block _ (row_ltA HR1.out)).trans HR1.out)
      have HZ2 := Lib.hid ((b2.block _ (row_ltA HZ1.out)).trans HZ1.out)
      clear b2 x0 x1 x2 x3 x4 x5 x6 x7 x8 x9 y0 y1 y2 y3 y4 y5 y6 y7 y8 y9 z0 z1 z2 z3 z4 z5 z6 z7 z8 z9 u0 u1 u2 u3 u4 u5 u6 u7 u8 u9
      obtain ⟨⟨x0, x1, x2, x3, x4, x5, x6, x7, x8, x9⟩, ⟨y0, y1, y2, y3, y4, y5, y6, y7, y8, y9⟩⟩ := cv_readsZ HR2.out
      obtain ⟨⟨z0, z1, z2, z3, z4, z5, z6, z7, z8, z9⟩, ⟨u0, u1, u2, u3, u4, u5, u6, u7, u8, u9⟩⟩ := cv_readsZ HZ2.out
      have HG := Lib.hid (grown_set (grown_set (grown_refl w2 w.heap.size) 3 (.int .i64 4)) 9 (.int .i64 28))
      have HZ3 := Lib.hid (grown_keep HG.out HZ2.out (by omega))
      have HB3 := Lib.hid (grown_below HB2.out HG.out (Nat.le_refl _))
      go_wp2_with fail
      have hq := cv_stored (.int .i64 c.id) (.string (T c.proto)) (.int .i64 c.role) (.int .i64 4) (.int .i64 c.step) ((.slice ao m cp)) (.string (T c.own)) (.string (T c.peer)) (.string (T c.user)) (.int .i64 28) HZ3.out
      obtain ⟨⟨q0, q1, q2, q3, q4, q5, q6, q7, q8, q9⟩, _⟩ := cv_readsZ hq.1
      have hB := below_set10z HB3.out (by omega) hq.2
      exact bodyPost_ret (v := .tuple #[.agg #[.int .i64 c.id, .string (T c.proto), .int .i64 c.role, .int .i64 4, .int .i64 c.step, (.slice ao m cp), .string (T c.own), .string (T c.peer), .string (T c.user), .int .i64 28], .int .i64 28]) (by simp [results, Tryz.results13, go_sem, q0, q1, q2, q3, q4, q5, q6, q7, q8, q9]) rfl ⟨rfl, HAT.out _ hB, hB⟩
  · rw [if_neg hbad] at h
    obtain ⟨rfl, rfl⟩ : R = N ∧ er = 0 := ⟨(Prod.mk.inj h).1.symm, (Prod.mk.inj h).2.symm⟩
    obtain rfl : ok = true := by cases ok; exact absurd (.inl rfl) hbad; rfl
    have e2 : (sp == s) = true := seq_yes (Decidable.byContradiction fun k => hbad (.inr k))
    rw [hkey]
    clear h hkey hbad
    go_enter Tryz.func13, Tryz.ntmps13
    go_upto_region 1 with fail
    generalize World.alloc _ _ = w0 at *
    obtain ⟨⟨x0, x1, x2, x3, x4, x5, x6, x7, x8, x9⟩, _⟩ := cv_reads HRW.out.1
    go_wp2_with fail
    (with_reducible refine (HLR.out _ HB0.out).mono ?_); rintro e w1 ⟨rfl, b1⟩
    have HB1 := Lib.hid (bnext HB0.out b1)
    have HR1 := Lib.hid ((b1.block _ (row_ltA HRW.out.1)).trans HRW.out.1)
    have HZ1 := Lib.hid ((b1.block _ (row_ltA HRW.out.2)).trans HRW.out.2)
    clear b1 x0 x1 x2 x3 x4 x5 x6 x7 x8 x9
    obtain ⟨⟨x0, x1, x2, x3, x4, x5, x6, x7, x8, x9⟩, _⟩ := cv_readsZ HR1.out
    go_wp2_with fail
    (with_reducible refine (HSP.out _ HB1.out).mono ?_); rintro e w2 ⟨rfl, b2⟩
    have hr2 := (b2.block _ (row_ltA HR1.out)).trans HR1.out
    have hz2 := (b2.block _ (row_ltA HZ1.out)).trans HZ1.out
    have HG := Lib.hid (grown_set (grown_set (grown_refl w2 w.heap.size) 7 (.string (T p))) 4 (.int .i64 (c.step + 1)))
    have HZS := Lib.hid (grown_keep HG.out hz2 (by omega))
    have HBS := Lib.hid (grown_below (bnext HB1.out b2) HG.out (Nat.le_refl _))
    have HATS := Lib.hid (atts_keep (HAT.out w2 (bnext HB1.out b2)) HG.out (fun q hq hn => by have := HNE.out q hq hn; omega))
    clear x0 x1 x2 x3 x4 x5 x6 x7 x8 x9
    obtain ⟨⟨x0, x1, x2, x3, x4, x5, x6, x7, x8, x9⟩, ⟨y0, y1, y2, y3, y4, y5, y6, y7, y8, y9⟩⟩ := cv_readsZ hr2
    clear b2 hr2 hz2
    go_wp2_with fail
    (with_reducible refine (HSE.out _ HATS.out).mono ?_); rintro e w3 ⟨rfl, b3⟩
    have hz3 := (b3.block _ (row_ltA HZS.out)).trans HZS.out
    have HB3 := Lib.hid (bnext HBS.out b3)
    have HZ3 := Lib.hid hz3
    clear x0 x1 x2 x3 x4 x5 x6 x7 x8 x9 y0 y1 y2 y3 y4 y5 y6 y7 y8 y9 b3
    obtain ⟨⟨z0, z1, z2, z3, z4, z5, z6, z7, z8, z9⟩, ⟨u0, u1, u2, u3, u4, u5, u6, u7, u8, u9⟩⟩ := cv_readsZ hz3
    clear hz3
    go_wp2_with fail
    have hq := cv_stored (.int .i64 R.id) (.string (T R.proto)) (.int .i64 R.role) (.int .i64 R.phase) (.int .i64 R.step) ((.slice ao m cp)) (.string (T R.own)) (.string (T R.peer)) (.string (T R.user)) (.int .i64 R.err) HZ3.out
    obtain ⟨⟨q0, q1, q2, q3, q4, q5, q6, q7, q8, q9⟩, _⟩ := cv_readsZ hq.1
    have hB := below_set10z HB3.out (by omega) hq.2
    exact bodyPost_ret (v := .tuple #[.agg #[.int .i64 R.id, .string (T R.proto), .int .i64 R.role, .int .i64 R.phase, .int .i64 R.step, (.slice ao m cp), .string (T R.own), .string (T R.peer), .string (T R.user), .int .i64 R.err], .int .i64 0]) (by simp [results, Tryz.results13, go_sem, q0, q1, q2, q3, q4, q5, q6, q7, q8, q9]) rfl ⟨rfl, HAT.out _ hB, hB⟩
end Go.Proofs.YtjjdaelddicokaaGreatDoor
set_option linter.unusedVariables false
set_option linter.unusedSimpArgs false
namespace Go.Proofs.YtjjdaelddicokaaGreatDoor
open Go.RowKit
open Au (Att Cnv)
/-- What the reference's Run hands back: the slices of the keys are the arguments'. -/
def RrnR (w : World) (R : Cnv × Cnv × Int) (ao bo : Option Addr) (m cp n dp : Nat) (e : Ending) (w' : World) : Prop :=
  e = .returned (.tuple #[.agg #[.int .i64 R.1.id, .string (T R.1.proto), .int .i64 R.1.role, .int .i64 R.1.phase, .int .i64 R.1.step, (.slice ao m cp), .string (T R.1.own), .string (T R.1.peer), .string (T R.1.user), .int .i64 R.1.err], .agg #[.int .i64 R.2.1.id, .string (T R.2.1.proto), .int .i64 R.2.1.role, .int .i64 R.2.1.phase, .int .i64 R.2.1.step, (.slice bo n dp), .string (T R.2.1.own), .string (T R.2.1.peer), .string (T R.2.1.user), .int .i64 R.2.1.err], .int .i64 R.2.2]) ∧ Atts w' (.slice ao m cp) R.1.key ∧ Atts w' (.slice bo n dp) R.2.1.key ∧ Below w.heap.size w w'
set_option maxRecDepth 100000 in
set_option maxHeartbeats 16000000 in
theorem rrun_any (a b : Cnv) (hra : Au.Rt a) (hrb : Au.Rt b) (ao bo : Option Addr) (m cp n dp : Nat) (w : World) (ha : Atts w (.slice ao m cp) a.key) (hb : Atts w (.slice bo n dp) b.key) (hfa : Fine a) (hfb : Fine b) (hsa : 0 ≤ a.step ∧ a.step ≤ 1000) (hsb : 0 ≤ b.step ∧ b.step ≤ 1000) (hK : KIn w) :
    Calls Tryz.prog 17 #[.agg #[.int .i64 a.id, .string (T a.proto), .int .i64 a.role, .int .i64 a.phase, .int .i64 a.step, (.slice ao m cp), .string (T a.own), .string (T a.peer), .string (T a.user), .int .i64 a.err], .agg #[.int .i64 b.id, .string (T b.proto), .int .i64 b.role, .int .i64 b.phase, .int .i64 b.step, (.slice bo n dp), .string (T b.own), .string (T b.peer), .string (T b.user), .int .i64 b.err]] w (RrnR w (Au.run 16 0 a b) ao bo m cp n dp) := by
  obtain ⟨R, hR⟩ : ∃ R, Au.run 16 0 a b = R := ⟨_, rfl⟩
  rw [hR]
  obtain ⟨la, hla⟩ : ∃ l, a.key = l := ⟨_, rfl⟩
  obtain ⟨lb, hlb⟩ : ∃ l, b.key = l := ⟨_, rfl⟩
  have HOA := Lib.hid (show Far w ao la from by rw [← hla]; exact far_old ha)
  have HOB := Lib.hid (show Far w bo lb from by rw [← hlb]; exact far_old hb)
  have HS1 := Lib.hid (RnS.start w a b (.slice ao m cp) (.slice bo n dp) ha hb hK)
  have HI0 := Lib.hid (show RnI 0 la lb a b from ⟨hfa, hfb, ⟨hsa.1, by have := hsa.2; omega⟩, ⟨hsb.1, by have := hsb.2; omega⟩, hla, hlb⟩)
  have HT0 := Lib.hid (⟨hra, hrb⟩ : Au.Rt a ∧ Au.Rt b)
  have HR0 := Lib.hid hR
  clear ha hb hfa hfb hsa hsb hK hR hla hlb hra hrb
  go_enter Tryz.func17, Tryz.ntmps17
  go_upto_region 1 with fail
  generalize World.alloc _ _ = W0 at *
  go_wp2_with fail
  go_loopw [7] (fun i wr => ∃ (k : Nat) (a1 b1 : Cnv), i = .int .i64 (k : Int) ∧ k ≤ 16 ∧ Hid (RnS w wr a1 b1 (.slice ao m cp) (.slice bo n dp)) ∧ Hid (RnI k la lb a1 b1 ∧ Au.run (16 - k) (k : Int) a1 b1 = R ∧ Au.Rt a1 ∧ Au.Rt b1)) (fun i _ => 16 - (intOf i).toNat)
  case atStart => exact ⟨0, a, b, rfl, by omega, HS1, Lib.hid ⟨HI0.out, HR0.out, HT0.out.1, HT0.out.2⟩⟩
  case round =>
    obtain ⟨k, a1, b1, rfl, hk, HS, HIR⟩ := hrel
    have HI := Lib.hid HIR.out.1
    have HRA := Lib.hid HIR.out.2.2.1
    have HRB := Lib.hid HIR.out.2.2.2
    have HFA := Lib.hid (show Far w ao a1.key from by rw [HI.out.ka]; exact HOA.out)
    have HFB := Lib.hid (show Far w bo b1.key from by rw [HI.out.kb]; exact HOB.out)
    clear HS1 HI0 HR0 HT0
    obtain ⟨⟨_, _, _, x3, _⟩, _⟩ := cv_readsZ HS.out.ra
    obtain ⟨⟨_, _, _, y3, _⟩, _⟩ := cv_readsZ HS.out.rb
    by_cases hlt : k < 16
    rotate_left
    · obtain rfl : k = 16 := by omega
      have HRE := Lib.hid (Au.run_end (.inl rfl) HIR.out.2.1)
      clear hlt x3 y3 HIR
      go_upto_region 13 with fail
      have HSW := Lib.hid (RnS.next HS.out (below_drew1 (Below.refl _ _)))
      refine wp_region_held_drew (S := (fun W' => RxS W' w.heap.size (w.heap.size + 1) a1 b1 (.slice ao m cp) (.slice bo n dp))) (by kernel_rfl) (rx_s HSW.out.ra HSW.out.rb) (fun hHeld => ?_)
      refine wpAnyH_takeD (i := 0) (d := 65) (v := ?e0) rfl rfl (by kernel_rfl) (by kernel_rfl) (by kernel_rfl) (fun _ _ _ h => h) (Or.inl ⟨by rfl, ?ye0⟩) (by assumption) ?re0
      case ye0 => (intro w hSw; (try dsimp only at hSw); go_simp <;> with_reducible rfl)
      try simp only [Act.put, List.setIfInBounds_toArray, List.set_cons_zero, List.set_cons_succ]
      refine wpAnyH_takeD (i := 1) (d := 66) (v := ?e1) rfl rfl (by kernel_rfl) (by kernel_rfl) (by kernel_rfl) (fun _ _ _ h => h) (Or.inl ⟨by rfl, ?ye1⟩) (by assumption) ?re1
      case ye1 => (intro w hSw; (try dsimp only at hSw); go_simp <;> with_reducible rfl)
      try simp only [Act.put, List.setIfInBounds_toArray, List.set_cons_zero, List.set_cons_succ]
      refine wpAnyH_takeD (i := 2) (d := 67) (v := ?e2) rfl rfl (by kernel_rfl) (by kernel_rfl) (by kernel_rfl) (fun _ _ _ h => h) (Or.inl ⟨by rfl, ?ye2⟩) (by assumption) ?re2
      case ye2 => (intro w hSw; (try dsimp only at hSw); go_simp <;> with_reducible rfl)
      try simp only [Act.put, List.setIfInBounds_toArray, List.set_cons_zero, List.set_cons_succ]
      obtain ⟨⟨x0, x1, x2, x3, x4, x5, x6, x7, x8, x9⟩, ⟨u0, u1, u2, u3, u4, u5, u6, u7, u8, u9⟩⟩ := cv_readsZ (RnS.r2 HS.out)
      refine wpAnyH_ready (rs := [3]) (by kernel_rfl) (by simp) ?_
      refine AllReadyH.cons rfl (fun K hK => ?_) AllReadyH.nil
      go_simp
      have hq := cv_stored ((.int .i64 a1.id)) ((.string (T a1.proto))) ((.int .i64 a1.role)) ((.int .i64 a1.phase)) ((.int .i64 a1.step)) (((.slice ao m cp))) ((.string (T a1.own))) ((.string (T a1.peer))) ((.string (T a1.user))) ((.int .i64 a1.err)) HS.out.r2
      generalize World.setCell _ _ _ = W4 at *
      have HE2 := Lib.hid hq.1
      have HE3 := Lib.hid (grown_keep hq.2 HS.out.r3 (by omega))
      have HE := Lib.hid (RnE.grown HS.out.e hq.2 (by omega) HFA.out HFB.out)
      clear hq HSW
      clear x0 x1 x2 x3 x4 x5 x6 x7 x8 x9 u0 u1 u2 u3 u4 u5 u6 u7 u8 u9
      refine hK.out _ _ (rx_s HE.out.drew.ra HE.out.drew.rb) (fun hHeld => ?_)
      clear hK K
      try simp only [Act.put, List.setIfInBounds_toArray, List.set_cons_zero, List.set_cons_succ]
      obtain ⟨⟨x0, x1, x2, x3, x4, x5, x6, x7, x8, x9⟩, ⟨u0, u1, u2, u3, u4, u5, u6, u7, u8, u9⟩⟩ := cv_readsZ HE3.out
      refine wpAnyH_ready (rs := [4]) (by kernel_rfl) (by simp) ?_
      refine AllReadyH.cons rfl (fun K hK => ?_) AllReadyH.nil
      go_simp
      have hq := cv_stored ((.int .i64 b1.id)) ((.string (T b1.proto))) ((.int .i64 b1.role)) ((.int .i64 b1.phase)) ((.int .i64 b1.step)) (((.slice bo n dp))) ((.string (T b1.own))) ((.string (T b1.peer))) ((.string (T b1.user))) ((.int .i64 b1.err)) HE3.out
      generalize World.setCell _ _ _ = W5 at *
      have HE4 := Lib.hid (grown_keep hq.2 HE2.out (by omega))
      have HE5 := Lib.hid hq.1
      have HEE := Lib.hid (RnE.grown HE.out hq.2 (by omega) HFA.out HFB.out)
      clear hq HE HE2 HE3
      clear x0 x1 x2 x3 x4 x5 x6 x7 x8 x9 u0 u1 u2 u3 u4 u5 u6 u7 u8 u9
      refine hK.out _ _ (rx_s HEE.out.drew.ra HEE.out.drew.rb) (fun hHeld => ?_)
      clear hK K
      try simp only [Act.put, List.setIfInBounds_toArray, List.set_cons_zero, List.set_cons_succ]
      refine wpAnyH_takeD (i := 5) (d := 6) (v := ?e5) rfl rfl (by kernel_rfl) (by kernel_rfl) (by kernel_rfl) (fun _ _ _ h => h) (Or.inl ⟨by rfl, ?ye5⟩) (by assumption) ?re5
      case ye5 => (intro w hSw; (try dsimp only at hSw); go_simp <;> with_reducible rfl)
      try simp only [Act.put, List.setIfInBounds_toArray, List.set_cons_zero, List.set_cons_succ]
      refine wpAnyH_done (by kernel_rfl) ?_ _
      clear hHeld
      obtain ⟨⟨x0, x1, x2, x3, x4, x5, x6, x7, x8, x9⟩, _⟩ := cv_readsZ HE4.out
      obtain ⟨⟨y0, y1, y2, y3, y4, y5, y6, y7, y8, y9⟩, _⟩ := cv_readsZ HE5.out
      go_wp2_with fail
      exact bodyPost_ret (v := .tuple #[.agg #[.int .i64 a1.id, .string (T a1.proto), .int .i64 a1.role, .int .i64 a1.phase, .int .i64 a1.step, (.slice ao m cp), .string (T a1.own), .string (T a1.peer), .string (T a1.user), .int .i64 a1.err], .agg #[.int .i64 b1.id, .string (T b1.proto), .int .i64 b1.role, .int .i64 b1.phase, .int .i64 b1.step, (.slice bo n dp), .string (T b1.own), .string (T b1.peer), .string (T b1.user), .int .i64 b1.err], .int .i64 16]) (by simp [results, Tryz.results17, go_sem, x0, x1, x2, x3, x4, x5, x6, x7, x8, x9, y0, y1, y2, y3, y4, y5, y6, y7, y8, y9]) rfl (by rw [HRE.out]; exact ⟨rfl, HEE.out.drew.ta, HEE.out.drew.tb, HEE.out.drew.bl⟩)
    have hki : (k : Int) < 16 := by omega
    by_cases hA : a1.phase = 1 ∧ b1.phase = 2
    · have e1 : (a1.phase == 1) = true := by rw [hA.1]; rfl
      have e2 : (b1.phase == 2) = true := by rw [hA.2]; rfl
      have HIN := Lib.hid (show RnI (k + 1) la lb _ _ ∧ _ ∧ Au.Rt _ ∧ Au.Rt _ from ⟨HIR.out.1.roundA, Au.run_a hlt hA HIR.out.2.1, Au.read_rt HRA.out, Au.write_rt HRB.out (Au.read a1).2.1⟩)
      clear hA HIR
      have HRD := Lib.hid (fun (W : World) (h : RnS w W a1 b1 (.slice ao m cp) (.slice bo n dp)) => rread_any a1 (Au.read a1).1 (Au.read a1).2.1 (Au.read a1).2.2 rfl HRA.out ao m cp W h.ta HI.out.fa)
      have HRT := Lib.hid (Au.read_text HI.out.fa)
      have HWR := Lib.hid (fun (W : World) (h : RnS w W (Au.read a1).1 b1 (.slice ao m cp) (.slice bo n dp)) => rwrite_any b1 (Au.read a1).2.1 (Au.write b1 (Au.read a1).2.1).1 (Au.write b1 (Au.read a1).2.1).2 rfl HRB.out bo n dp W h.tb HI.out.fb (by have := HRT.out; omega))
      go_upto_region 5 with fail
      obtain ⟨⟨x0, x1, x2, x3, x4, x5, x6, x7, x8, x9⟩, ⟨u0, u1, u2, u3, u4, u5, u6, u7, u8, u9⟩⟩ := cv_readsZ (RnS.ra HS.out)
      go_wp2_with fail
      (with_reducible refine (HRD.out _ HS.out).mono ?_); rintro e w1 ⟨rfl, hta, hba⟩
      clear x0 x1 x2 x3 x4 x5 x6 x7 x8 x9 u0 u1 u2 u3 u4 u5 u6 u7 u8 u9
      have HSA0 := Lib.hid (RnS.next HS.out hba)
      have HTA0 := Lib.hid hta
      clear hta hba
      go_upto_region 6 with fail
      have hB := (Below.refl w1.heap.size w1).alloc (Nat.le_refl _) (.cells #[.int .i64 (Au.read a1).1.id, .string (T (Au.read a1).1.proto), .int .i64 (Au.read a1).1.role, .int .i64 (Au.read a1).1.phase, .int .i64 (Au.read a1).1.step, (.slice ao m cp), .string (T (Au.read a1).1.own), .string (T (Au.read a1).1.peer), .string (T (Au.read a1).1.user), .int .i64 (Au.read a1).1.err] 25)
      have HX := Lib.hid (heap_alloc_new w1 (.cells #[.int .i64 (Au.read a1).1.id, .string (T (Au.read a1).1.proto), .int .i64 (Au.read a1).1.role, .int .i64 (Au.read a1).1.phase, .int .i64 (Au.read a1).1.step, (.slice ao m cp), .string (T (Au.read a1).1.own), .string (T (Au.read a1).1.peer), .string (T (Au.read a1).1.user), .int .i64 (Au.read a1).1.err] 25))
      have HSA := Lib.hid (RnS.next HSA0.out hB)
      have HTA := Lib.hid (HTA0.out.below hB)
      clear hB HSA0 HTA0
      generalize World.alloc _ _ = V1 at *
      obtain ⟨⟨x0, x1, x2, x3, x4, x5, x6, x7, x8, x9⟩, ⟨u0, u1, u2, u3, u4, u5, u6, u7, u8, u9⟩⟩ := cv_readsZ (RnS.ra HSA.out)
      obtain ⟨⟨q0, q1, q2, q3, q4, q5, q6, q7, q8, q9⟩, _⟩ := cv_readsZ HX.out
      go_upto_region 7 with fail
      have hq := cv_stored ((.int .i64 (Au.read a1).1.id)) ((.string (T (Au.read a1).1.proto))) ((.int .i64 (Au.read a1).1.role)) ((.int .i64 (Au.read a1).1.phase)) ((.int .i64 (Au.read a1).1.step)) (((.slice ao m cp))) ((.string (T (Au.read a1).1.own))) ((.string (T (Au.read a1).1.peer))) ((.string (T (Au.read a1).1.user))) ((.int .i64 (Au.read a1).1.err)) HSA.out.ra
      generalize World.setCell _ _ _ = V2 at *
      have HS1 := Lib.hid (RnS.setA HSA.out hq.2 hq.1 HTA.out (by rw [Au.read_key]; exact HFA.out) HFB.out)
      clear hq HTA HSA HX
      clear x0 x1 x2 x3 x4 x5 x6 x7 x8 x9 u0 u1 u2 u3 u4 u5 u6 u7 u8 u9 q0 q1 q2 q3 q4 q5 q6 q7 q8 q9
      obtain ⟨⟨x0, x1, x2, x3, x4, x5, x6, x7, x8, x9⟩, ⟨u0, u1, u2, u3, u4, u5, u6, u7, u8, u9⟩⟩ := cv_readsZ (RnS.rb HS1.out)
      go_wp2_with fail
      (with_reducible refine (HWR.out _ HS1.out).mono ?_); rintro e w2 ⟨rfl, hta, hba⟩
      have HSB := Lib.hid (RnS.next HS1.out hba)
      have HTB := Lib.hid hta
      clear x0 x1 x2 x3 x4 x5 x6 x7 x8 x9 u0 u1 u2 u3 u4 u5 u6 u7 u8 u9
      obtain ⟨⟨x0, x1, x2, x3, x4, x5, x6, x7, x8, x9⟩, ⟨u0, u1, u2, u3, u4, u5, u6, u7, u8, u9⟩⟩ := cv_readsZ (RnS.rb HSB.out)
      clear hta hba
      go_upto_region 12 with fail
      have hq := cv_stored ((.int .i64 (Au.write b1 (Au.read a1).2.1).1.id)) ((.string (T (Au.write b1 (Au.read a1).2.1).1.proto))) ((.int .i64 (Au.write b1 (Au.read a1).2.1).1.role)) ((.int .i64 (Au.write b1 (Au.read a1).2.1).1.phase)) ((.int .i64 (Au.write b1 (Au.read a1).2.1).1.step)) (((.slice bo n dp))) ((.string (T (Au.write b1 (Au.read a1).2.1).1.own))) ((.string (T (Au.write b1 (Au.read a1).2.1).1.peer))) ((.string (T (Au.write b1 (Au.read a1).2.1).1.user))) ((.int .i64 (Au.write b1 (Au.read a1).2.1).1.err)) HSB.out.rb
      generalize World.setCell _ _ _ = W5 at *
      have HS5 := Lib.hid (RnS.setB HSB.out hq.2 hq.1 HTB.out (by rw [Au.write_key]; exact HFB.out) (by rw [Au.read_key]; exact HFA.out))
      clear hq
      clear x0 x1 x2 x3 x4 x5 x6 x7 x8 x9 u0 u1 u2 u3 u4 u5 u6 u7 u8 u9
      go_wp2_with fail
      go_roundw
      case rel => exact ⟨k + 1, _, _, by go_num, by omega, HS5, HIN⟩
      case measure => simp [intOf]; omega
    by_cases hB : b1.phase = 1 ∧ a1.phase = 2
    · have e1 : (a1.phase == 1) = false := by rw [hB.2]; rfl
      have e2 : (b1.phase == 1) = true := by rw [hB.1]; rfl
      have e3 : (a1.phase == 2) = true := by rw [hB.2]; rfl
      have HIN := Lib.hid (show RnI (k + 1) la lb _ _ ∧ _ ∧ Au.Rt _ ∧ Au.Rt _ from ⟨HIR.out.1.roundB, Au.run_b hlt hB HIR.out.2.1, Au.write_rt HRA.out (Au.read b1).2.1, Au.read_rt HRB.out⟩)
      clear hA hB HIR
      have HRD := Lib.hid (fun (W : World) (h : RnS w W a1 b1 (.slice ao m cp) (.slice bo n dp)) => rread_any b1 (Au.read b1).1 (Au.read b1).2.1 (Au.read b1).2.2 rfl HRB.out bo n dp W h.tb HI.out.fb)
      have HRT := Lib.hid (Au.read_text HI.out.fb)
      have HWR := Lib.hid (fun (W : World) (h : RnS w W a1 (Au.read b1).1 (.slice ao m cp) (.slice bo n dp)) => rwrite_any a1 (Au.read b1).2.1 (Au.write a1 (Au.read b1).2.1).1 (Au.write a1 (Au.read b1).2.1).2 rfl HRA.out ao m cp W h.ta HI.out.fa (by have := HRT.out; omega))
      go_upto_region 9 with fail
      obtain ⟨⟨x0, x1, x2, x3, x4, x5, x6, x7, x8, x9⟩, ⟨u0, u1, u2, u3, u4, u5, u6, u7, u8, u9⟩⟩ := cv_readsZ (RnS.rb HS.out)
      go_wp2_with fail
      (with_reducible refine (HRD.out _ HS.out).mono ?_); rintro e w1 ⟨rfl, hta, hba⟩
      clear x0 x1 x2 x3 x4 x5 x6 x7 x8 x9 u0 u1 u2 u3 u4 u5 u6 u7 u8 u9
      have HSA0 := Lib.hid (RnS.next HS.out hba)
      have HTA0 := Lib.hid hta
      clear hta hba
      go_upto_region 10 with fail
      have hB := (Below.refl w1.heap.size w1).alloc (Nat.le_refl _) (.cells #[.int .i64 (Au.read b1).1.id, .string (T (Au.read b1).1.proto), .int .i64 (Au.read b1).1.role, .int .i64 (Au.read b1).1.phase, .int .i64 (Au.read b1).1.step, (.slice bo n dp), .string (T (Au.read b1).1.own), .string (T (Au.read b1).1.peer), .string (T (Au.read b1).1.user), .int .i64 (Au.read b1).1.err] 25)
      have HX := Lib.hid (heap_alloc_new w1 (.cells #[.int .i64 (Au.read b1).1.id, .string (T (Au.read b1).1.proto), .int .i64 (Au.read b1).1.role, .int .i64 (Au.read b1).1.phase, .int .i64 (Au.read b1).1.step, (.slice bo n dp), .string (T (Au.read b1).1.own), .string (T (Au.read b1).1.peer), .string (T (Au.read b1).1.user), .int .i64 (Au.read b1).1.err] 25))
      have HSA := Lib.hid (RnS.next HSA0.out hB)
      have HTA := Lib.hid (HTA0.out.below hB)
      clear hB HSA0 HTA0
      generalize World.alloc _ _ = V1 at *
      obtain ⟨⟨x0, x1, x2, x3, x4, x5, x6, x7, x8, x9⟩, ⟨u0, u1, u2, u3, u4, u5, u6, u7, u8, u9⟩⟩ := cv_readsZ (RnS.rb HSA.out)
      obtain ⟨⟨q0, q1, q2, q3, q4, q5, q6, q7, q8, q9⟩, _⟩ := cv_readsZ HX.out
      go_upto_region 11 with fail
      have hq := cv_stored ((.int .i64 (Au.read b1).1.id)) ((.string (T (Au.read b1).1.proto))) ((.int .i64 (Au.read b1).1.role)) ((.int .i64 (Au.read b1).1.phase)) ((.int .i64 (Au.read b1).1.step)) (((.slice bo n dp))) ((.string (T (Au.read b1).1.own))) ((.string (T (Au.read b1).1.peer))) ((.string (T (Au.read b1).1.user))) ((.int .i64 (Au.read b1).1.err)) HSA.out.rb
      generalize World.setCell _ _ _ = V2 at *
      have HS1 := Lib.hid (RnS.setB HSA.out hq.2 hq.1 HTA.out (by rw [Au.read_key]; exact HFB.out) HFA.out)
      clear hq HTA HSA HX
      clear x0 x1 x2 x3 x4 x5 x6 x7 x8 x9 u0 u1 u2 u3 u4 u5 u6 u7 u8 u9 q0 q1 q2 q3 q4 q5 q6 q7 q8 q9
      obtain ⟨⟨x0, x1, x2, x3, x4, x5, x6, x7, x8, x9⟩, ⟨u0, u1, u2, u3, u4, u5, u6, u7, u8, u9⟩⟩ := cv_readsZ (RnS.ra HS1.out)
      go_wp2_with fail
      (with_reducible refine (HWR.out _ HS1.out).mono ?_); rintro e w2 ⟨rfl, hta, hba⟩
      have HSB := Lib.hid (RnS.next HS1.out hba)
      have HTB := Lib.hid hta
      clear x0 x1 x2 x3 x4 x5 x6 x7 x8 x9 u0 u1 u2 u3 u4 u5 u6 u7 u8 u9
      obtain ⟨⟨x0, x1, x2, x3, x4, x5, x6, x7, x8, x9⟩, ⟨u0, u1, u2, u3, u4, u5, u6, u7, u8, u9⟩⟩ := cv_readsZ (RnS.ra HSB.out)
      clear hta hba
      go_upto_region 12 with fail
      have hq := cv_stored ((.int .i64 (Au.write a1 (Au.read b1).2.1).1.id)) ((.string (T (Au.write a1 (Au.read b1).2.1).1.proto))) ((.int .i64 (Au.write a1 (Au.read b1).2.1).1.role)) ((.int .i64 (Au.write a1 (Au.read b1).2.1).1.phase)) ((.int .i64 (Au.write a1 (Au.read b1).2.1).1.step)) (((.slice ao m cp))) ((.string (T (Au.write a1 (Au.read b1).2.1).1.own))) ((.string (T (Au.write a1 (Au.read b1).2.1).1.peer))) ((.string (T (Au.write a1 (Au.read b1).2.1).1.user))) ((.int .i64 (Au.write a1 (Au.read b1).2.1).1.err)) HSB.out.ra
      generalize World.setCell _ _ _ = W5 at *
      have HS5 := Lib.hid (RnS.setA HSB.out hq.2 hq.1 HTB.out (by rw [Au.write_key]; exact HFA.out) (by rw [Au.read_key]; exact HFB.out))
      clear hq
      clear x0 x1 x2 x3 x4 x5 x6 x7 x8 x9 u0 u1 u2 u3 u4 u5 u6 u7 u8 u9
      go_wp2_with fail
      go_roundw
      case rel => exact ⟨k + 1, _, _, by go_num, by omega, HS5, HIN⟩
      case measure => simp [intOf]; omega
    have HRE := Lib.hid (Au.run_end (.inr ⟨hA, hB⟩) HIR.out.2.1)
    clear HIR
    by_cases h1 : a1.phase = 1
    · have e1 : (a1.phase == 1) = true := by rw [h1]; rfl
      have e2 : (b1.phase == 2) = false := by rw [beq_eq_false_iff_ne]; exact fun e => hA ⟨h1, e⟩
      by_cases h2 : b1.phase = 1
      · have e3 : (b1.phase == 1) = true := by rw [h2]; rfl
        have e4 : (a1.phase == 2) = false := by rw [h1]; rfl
        clear hA hB h1 h2
        go_upto_region 3 with fail
        have HSW := Lib.hid (RnS.next HS.out (below_drew1 (Below.refl _ _)))
        refine wp_region_held_drew (S := (fun W' => RxS W' w.heap.size (w.heap.size + 1) a1 b1 (.slice ao m cp) (.slice bo n dp))) (by kernel_rfl) (rx_s HSW.out.ra HSW.out.rb) (fun hHeld => ?_)
        refine wpAnyH_takeD (i := 0) (d := 16) (v := ?f0) rfl rfl (by kernel_rfl) (by kernel_rfl) (by kernel_rfl) (fun _ _ _ h => h) (Or.inl ⟨by rfl, ?yf0⟩) (by assumption) ?rf0
        case yf0 => (intro w hSw; (try dsimp only at hSw); go_simp <;> with_reducible rfl)
        try simp only [Act.put, List.setIfInBounds_toArray, List.set_cons_zero, List.set_cons_succ]
        refine wpAnyH_takeD (i := 1) (d := 17) (v := ?f1) rfl rfl (by kernel_rfl) (by kernel_rfl) (by kernel_rfl) (fun _ _ _ h => h) (Or.inl ⟨by rfl, ?yf1⟩) (by assumption) ?rf1
        case yf1 => (intro w hSw; (try dsimp only at hSw); go_simp <;> with_reducible rfl)
        try simp only [Act.put, List.setIfInBounds_toArray, List.set_cons_zero, List.set_cons_succ]
        refine wpAnyH_takeD (i := 2) (d := 18) (v := ?f2) rfl rfl (by kernel_rfl) (by kernel_rfl) (by kernel_rfl) (fun _ _ _ h => h) (Or.inl ⟨by rfl, ?yf2⟩) (by assumption) ?rf2
        case yf2 => (intro w hSw; (try dsimp only at hSw); go_simp <;> with_reducible rfl)
        try simp only [Act.put, List.setIfInBounds_toArray, List.set_cons_zero, List.set_cons_succ]
        obtain ⟨⟨x0, x1, x2, x3, x4, x5, x6, x7, x8, x9⟩, ⟨u0, u1, u2, u3, u4, u5, u6, u7, u8, u9⟩⟩ := cv_readsZ (RnS.r2 HS.out)
        refine wpAnyH_ready (rs := [3]) (by kernel_rfl) (by simp) ?_
        refine AllReadyH.cons rfl (fun K hK => ?_) AllReadyH.nil
        go_simp
        have hq := cv_stored ((.int .i64 a1.id)) ((.string (T a1.proto))) ((.int .i64 a1.role)) ((.int .i64 a1.phase)) ((.int .i64 a1.step)) (((.slice ao m cp))) ((.string (T a1.own))) ((.string (T a1.peer))) ((.string (T a1.user))) ((.int .i64 a1.err)) HS.out.r2
        generalize World.setCell _ _ _ = W4 at *
        have HE2 := Lib.hid hq.1
        have HE3 := Lib.hid (grown_keep hq.2 HS.out.r3 (by omega))
        have HE := Lib.hid (RnE.grown HS.out.e hq.2 (by omega) HFA.out HFB.out)
        clear hq HSW
        clear x0 x1 x2 x3 x4 x5 x6 x7 x8 x9 u0 u1 u2 u3 u4 u5 u6 u7 u8 u9
        refine hK.out _ _ (rx_s HE.out.drew.ra HE.out.drew.rb) (fun hHeld => ?_)
        clear hK K
        try simp only [Act.put, List.setIfInBounds_toArray, List.set_cons_zero, List.set_cons_succ]
        obtain ⟨⟨x0, x1, x2, x3, x4, x5, x6, x7, x8, x9⟩, ⟨u0, u1, u2, u3, u4, u5, u6, u7, u8, u9⟩⟩ := cv_readsZ HE3.out
        refine wpAnyH_ready (rs := [4]) (by kernel_rfl) (by simp) ?_
        refine AllReadyH.cons rfl (fun K hK => ?_) AllReadyH.nil
        go_simp
        have hq := cv_stored ((.int .i64 b1.id)) ((.string (T b1.proto))) ((.int .i64 b1.role)) ((.int .i64 b1.phase)) ((.int .i64 b1.step)) (((.slice bo n dp))) ((.string (T b1.own))) ((.string (T b1.peer))) ((.string (T b1.user))) ((.int .i64 b1.err)) HE3.out
        generalize World.setCell _ _ _ = W5 at *
        have HE4 := Lib.hid (grown_keep hq.2 HE2.out (by omega))
        have HE5 := Lib.hid hq.1
        have HEE := Lib.hid (RnE.grown HE.out hq.2 (by omega) HFA.out HFB.out)
        clear hq HE HE2 HE3
        clear x0 x1 x2 x3 x4 x5 x6 x7 x8 x9 u0 u1 u2 u3 u4 u5 u6 u7 u8 u9
        refine hK.out _ _ (rx_s HEE.out.drew.ra HEE.out.drew.rb) (fun hHeld => ?_)
        clear hK K
        try simp only [Act.put, List.setIfInBounds_toArray, List.set_cons_zero, List.set_cons_succ]
        refine wpAnyH_takeD (i := 5) (d := 6) (v := ?f5) rfl rfl (by kernel_rfl) (by kernel_rfl) (by kernel_rfl) (fun _ _ _ h => h) (Or.inl ⟨by rfl, ?yf5⟩) (by assumption) ?rf5
        case yf5 => (intro w hSw; (try dsimp only at hSw); go_simp <;> with_reducible rfl)
        try simp only [Act.put, List.setIfInBounds_toArray, List.set_cons_zero, List.set_cons_succ]
        refine wpAnyH_done (by kernel_rfl) ?_ _
        clear hHeld
        obtain ⟨⟨x0, x1, x2, x3, x4, x5, x6, x7, x8, x9⟩, _⟩ := cv_readsZ HE4.out
        obtain ⟨⟨y0, y1, y2, y3, y4, y5, y6, y7, y8, y9⟩, _⟩ := cv_readsZ HE5.out
        go_wp2_with fail
        exact bodyPost_ret (v := .tuple #[.agg #[.int .i64 a1.id, .string (T a1.proto), .int .i64 a1.role, .int .i64 a1.phase, .int .i64 a1.step, (.slice ao m cp), .string (T a1.own), .string (T a1.peer), .string (T a1.user), .int .i64 a1.err], .agg #[.int .i64 b1.id, .string (T b1.proto), .int .i64 b1.role, .int .i64 b1.phase, .int .i64 b1.step, (.slice bo n dp), .string (T b1.own), .string (T b1.peer), .string (T b1.user), .int .i64 b1.err], .int .i64 (k : Int)]) (by simp [results, Tryz.results17, go_sem, x0, x1, x2, x3, x4, x5, x6, x7, x8, x9, y0, y1, y2, y3, y4, y5, y6, y7, y8, y9]) rfl (by rw [HRE.out]; exact ⟨rfl, HEE.out.drew.ta, HEE.out.drew.tb, HEE.out.drew.bl⟩)
      · have e3 : (b1.phase == 1) = false := by rw [beq_eq_false_iff_ne]; exact h2
        clear hA hB h1 h2
        go_upto_region 3 with fail
        have HSW := Lib.hid (RnS.next HS.out (below_drew1 (Below.refl _ _)))
        refine wp_region_held_drew (S := (fun W' => RxS W' w.heap.size (w.heap.size + 1) a1 b1 (.slice ao m cp) (.slice bo n dp))) (by kernel_rfl) (rx_s HSW.out.ra HSW.out.rb) (fun hHeld => ?_)
        refine wpAnyH_takeD (i := 0) (d := 16) (v := ?g0) rfl rfl (by kernel_rfl) (by kernel_rfl) (by kernel_rfl) (fun _ _ _ h => h) (Or.inl ⟨by rfl, ?yg0⟩) (by assumption) ?rg0
        case yg0 => (intro w hSw; (try dsimp only at hSw); go_simp <;> with_reducible rfl)
        try simp only [Act.put, List.setIfInBounds_toArray, List.set_cons_zero, List.set_cons_succ]
        refine wpAnyH_takeD (i := 1) (d := 17) (v := ?g1) rfl rfl (by kernel_rfl) (by kernel_rfl) (by kernel_rfl) (fun _ _ _ h => h) (Or.inl ⟨by rfl, ?yg1⟩) (by assumption) ?rg1
        case yg1 => (intro w hSw; (try dsimp only at hSw); go_simp <;> with_reducible rfl)
        try simp only [Act.put, List.setIfInBounds_toArray, List.set_cons_zero, List.set_cons_succ]
        refine wpAnyH_takeD (i := 2) (d := 18) (v := ?g2) rfl rfl (by kernel_rfl) (by kernel_rfl) (by kernel_rfl) (fun _ _ _ h => h) (Or.inl ⟨by rfl, ?yg2⟩) (by assumption) ?rg2
        case yg2 => (intro w hSw; (try dsimp only at hSw); go_simp <;> with_reducible rfl)
        try simp only [Act.put, List.setIfInBounds_toArray, List.set_cons_zero, List.set_cons_succ]
        obtain ⟨⟨x0, x1, x2, x3, x4, x5, x6, x7, x8, x9⟩, ⟨u0, u1, u2, u3, u4, u5, u6, u7, u8, u9⟩⟩ := cv_readsZ (RnS.r2 HS.out)
        refine wpAnyH_ready (rs := [3]) (by kernel_rfl) (by simp) ?_
        refine AllReadyH.cons rfl (fun K hK => ?_) AllReadyH.nil
        go_simp
        have hq := cv_stored ((.int .i64 a1.id)) ((.string (T a1.proto))) ((.int .i64 a1.role)) ((.int .i64 a1.phase)) ((.int .i64 a1.step)) (((.slice ao m cp))) ((.string (T a1.own))) ((.string (T a1.peer))) ((.string (T a1.user))) ((.int .i64 a1.err)) HS.out.r2
        generalize World.setCell _ _ _ = W4 at *
        have HE2 := Lib.hid hq.1
        have HE3 := Lib.hid (grown_keep hq.2 HS.out.r3 (by omega))
        have HE := Lib.hid (RnE.grown HS.out.e hq.2 (by omega) HFA.out HFB.out)
        clear hq HSW
        clear x0 x1 x2 x3 x4 x5 x6 x7 x8 x9 u0 u1 u2 u3 u4 u5 u6 u7 u8 u9
        refine hK.out _ _ (rx_s HE.out.drew.ra HE.out.drew.rb) (fun hHeld => ?_)
        clear hK K
        try simp only [Act.put, List.setIfInBounds_toArray, List.set_cons_zero, List.set_cons_succ]
        obtain ⟨⟨x0, x1, x2, x3, x4, x5, x6, x7, x8, x9⟩, ⟨u0, u1, u2, u3, u4, u5, u6, u7, u8, u9⟩⟩ := cv_readsZ HE3.out
        refine wpAnyH_ready (rs := [4]) (by kernel_rfl) (by simp) ?_
        refine AllReadyH.cons rfl (fun K hK => ?_) AllReadyH.nil
        go_simp
        have hq := cv_stored ((.int .i64 b1.id)) ((.string (T b1.proto))) ((.int .i64 b1.role)) ((.int .i64 b1.phase)) ((.int .i64 b1.step)) (((.slice bo n dp))) ((.string (T b1.own))) ((.string (T b1.peer))) ((.string (T b1.user))) ((.int .i64 b1.err)) HE3.out
        generalize World.setCell _ _ _ = W5 at *
        have HE4 := Lib.hid (grown_keep hq.2 HE2.out (by omega))
        have HE5 := Lib.hid hq.1
        have HEE := Lib.hid (RnE.grown HE.out hq.2 (by omega) HFA.out HFB.out)
        clear hq HE HE2 HE3
        clear x0 x1 x2 x3 x4 x5 x6 x7 x8 x9 u0 u1 u2 u3 u4 u5 u6 u7 u8 u9
        refine hK.out _ _ (rx_s HEE.out.drew.ra HEE.out.drew.rb) (fun hHeld => ?_)
        clear hK K
        try simp only [Act.put, List.setIfInBounds_toArray, List.set_cons_zero, List.set_cons_succ]
        refine wpAnyH_takeD (i := 5) (d := 6) (v := ?g5) rfl rfl (by kernel_rfl) (by kernel_rfl) (by kernel_rfl) (fun _ _ _ h => h) (Or.inl ⟨by rfl, ?yg5⟩) (by assumption) ?rg5
        case yg5 => (intro w hSw; (try dsimp only at hSw); go_simp <;> with_reducible rfl)
        try simp only [Act.put, List.setIfInBounds_toArray, List.set_cons_zero, List.set_cons_succ]
        refine wpAnyH_done (by kernel_rfl) ?_ _
        clear hHeld
        obtain ⟨⟨x0, x1, x2, x3, x4, x5, x6, x7, x8, x9⟩, _⟩ := cv_readsZ HE4.out
        obtain ⟨⟨y0, y1, y2, y3, y4, y5, y6, y7, y8, y9⟩, _⟩ := cv_readsZ HE5.out
        go_wp2_with fail
        exact bodyPost_ret (v := .tuple #[.agg #[.int .i64 a1.id, .string (T a1.proto), .int .i64 a1.role, .int .i64 a1.phase, .int .i64 a1.step, (.slice ao m cp), .string (T a1.own), .string (T a1.peer), .string (T a1.user), .int .i64 a1.err], .agg #[.int .i64 b1.id, .string (T b1.proto), .int .i64 b1.role, .int .i64 b1.phase, .int .i64 b1.step, (.slice bo n dp), .string (T b1.own), .string (T b1.peer), .string (T b1.user), .int .i64 b1.err], .int .i64 (k : Int)]) (by simp [results, Tryz.results17, go_sem, x0, x1, x2, x3, x4, x5, x6, x7, x8, x9, y0, y1, y2, y3, y4, y5, y6, y7, y8, y9]) rfl (by rw [HRE.out]; exact ⟨rfl, HEE.out.drew.ta, HEE.out.drew.tb, HEE.out.drew.bl⟩)
    · have e1 : (a1.phase == 1) = false := by rw [beq_eq_false_iff_ne]; exact h1
      by_cases h2 : b1.phase = 1
      · have e3 : (b1.phase == 1) = true := by rw [h2]; rfl
        have e4 : (a1.phase == 2) = false := by rw [beq_eq_false_iff_ne]; exact fun e => hB ⟨h2, e⟩
        clear hA hB h1 h2
        go_upto_region 3 with fail
        have HSW := Lib.hid (RnS.next HS.out (below_drew1 (Below.refl _ _)))
        refine wp_region_held_drew (S := (fun W' => RxS W' w.heap.size (w.heap.size + 1) a1 b1 (.slice ao m cp) (.slice bo n dp))) (by kernel_rfl) (rx_s HSW.out.ra HSW.out.rb) (fun hHeld => ?_)
        refine wpAnyH_takeD (i := 0) (d := 16) (v := ?h0) rfl rfl (by kernel_rfl) (by kernel_rfl) (by kernel_rfl) (fun _ _ _ h => h) (Or.inl ⟨by rfl, ?yh0⟩) (by assumption) ?rh0
        case yh0 => (intro w hSw; (try dsimp only at hSw); go_simp <;> with_reducible rfl)
        try simp only [Act.put, List.setIfInBounds_toArray, List.set_cons_zero, List.set_cons_succ]
        refine wpAnyH_takeD (i := 1) (d := 17) (v := ?h1) rfl rfl (by kernel_rfl) (by kernel_rfl) (by kernel_rfl) (fun _ _ _ h => h) (Or.inl ⟨by rfl, ?yh1⟩) (by assumption) ?rh1
        case yh1 => (intro w hSw; (try dsimp only at hSw); go_simp <;> with_reducible rfl)
        try simp only [Act.put, List.setIfInBounds_toArray, List.set_cons_zero, List.set_cons_succ]
        refine wpAnyH_takeD (i := 2) (d := 18) (v := ?h2) rfl rfl (by kernel_rfl) (by kernel_rfl) (by kernel_rfl) (fun _ _ _ h => h) (Or.inl ⟨by rfl, ?yh2⟩) (by assumption) ?rh2
        case yh2 => (intro w hSw; (try dsimp only at hSw); go_simp <;> with_reducible rfl)
        try simp only [Act.put, List.setIfInBounds_toArray, List.set_cons_zero, List.set_cons_succ]
        obtain ⟨⟨x0, x1, x2, x3, x4, x5, x6, x7, x8, x9⟩, ⟨u0, u1, u2, u3, u4, u5, u6, u7, u8, u9⟩⟩ := cv_readsZ (RnS.r2 HS.out)
        refine wpAnyH_ready (rs := [3]) (by kernel_rfl) (by simp) ?_
        refine AllReadyH.cons rfl (fun K hK => ?_) AllReadyH.nil
        go_simp
        have hq := cv_stored ((.int .i64 a1.id)) ((.string (T a1.proto))) ((.int .i64 a1.role)) ((.int .i64 a1.phase)) ((.int .i64 a1.step)) (((.slice ao m cp))) ((.string (T a1.own))) ((.string (T a1.peer))) ((.string (T a1.user))) ((.int .i64 a1.err)) HS.out.r2
        generalize World.setCell _ _ _ = W4 at *
        have HE2 := Lib.hid hq.1
        have HE3 := Lib.hid (grown_keep hq.2 HS.out.r3 (by omega))
        have HE := Lib.hid (RnE.grown HS.out.e hq.2 (by omega) HFA.out HFB.out)
        clear hq HSW
        clear x0 x1 x2 x3 x4 x5 x6 x7 x8 x9 u0 u1 u2 u3 u4 u5 u6 u7 u8 u9
        refine hK.out _ _ (rx_s HE.out.drew.ra HE.out.drew.rb) (fun hHeld => ?_)
        clear hK K
        try simp only [Act.put, List.setIfInBounds_toArray, List.set_cons_zero, List.set_cons_succ]
        obtain ⟨⟨x0, x1, x2, x3, x4, x5, x6, x7, x8, x9⟩, ⟨u0, u1, u2, u3, u4, u5, u6, u7, u8, u9⟩⟩ := cv_readsZ HE3.out
        refine wpAnyH_ready (rs := [4]) (by kernel_rfl) (by simp) ?_
        refine AllReadyH.cons rfl (fun K hK => ?_) AllReadyH.nil
        go_simp
        have hq := cv_stored ((.int .i64 b1.id)) ((.string (T b1.proto))) ((.int .i64 b1.role)) ((.int .i64 b1.phase)) ((.int .i64 b1.step)) (((.slice bo n dp))) ((.string (T b1.own))) ((.string (T b1.peer))) ((.string (T b1.user))) ((.int .i64 b1.err)) HE3.out
        generalize World.setCell _ _ _ = W5 at *
        have HE4 := Lib.hid (grown_keep hq.2 HE2.out (by omega))
        have HE5 := Lib.hid hq.1
        have HEE := Lib.hid (RnE.grown HE.out hq.2 (by omega) HFA.out HFB.out)
        clear hq HE HE2 HE3
        clear x0 x1 x2 x3 x4 x5 x6 x7 x8 x9 u0 u1 u2 u3 u4 u5 u6 u7 u8 u9
        refine hK.out _ _ (rx_s HEE.out.drew.ra HEE.out.drew.rb) (fun hHeld => ?_)
        clear hK K
        try simp only [Act.put, List.setIfInBounds_toArray, List.set_cons_zero, List.set_cons_succ]
        refine wpAnyH_takeD (i := 5) (d := 6) (v := ?h5) rfl rfl (by kernel_rfl) (by kernel_rfl) (by kernel_rfl) (fun _ _ _ h => h) (Or.inl ⟨by rfl, ?yh5⟩) (by assumption) ?rh5
        case yh5 => (intro w hSw; (try dsimp only at hSw); go_simp <;> with_reducible rfl)
        try simp only [Act.put, List.setIfInBounds_toArray, List.set_cons_zero, List.set_cons_succ]
        refine wpAnyH_done (by kernel_rfl) ?_ _
        clear hHeld
        obtain ⟨⟨x0, x1, x2, x3, x4, x5, x6, x7, x8, x9⟩, _⟩ := cv_readsZ HE4.out
        obtain ⟨⟨y0, y1, y2, y3, y4, y5, y6, y7, y8, y9⟩, _⟩ := cv_readsZ HE5.out
        go_wp2_with fail
        exact bodyPost_ret (v := .tuple #[.agg #[.int .i64 a1.id, .string (T a1.proto), .int .i64 a1.role, .int .i64 a1.phase, .int .i64 a1.step, (.slice ao m cp), .string (T a1.own), .string (T a1.peer), .string (T a1.user), .int .i64 a1.err], .agg #[.int .i64 b1.id, .string (T b1.proto), .int .i64 b1.role, .int .i64 b1.phase, .int .i64 b1.step, (.slice bo n dp), .string (T b1.own), .string (T b1.peer), .string (T b1.user), .int .i64 b1.err], .int .i64 (k : Int)]) (by simp [results, Tryz.results17, go_sem, x0, x1, x2, x3, x4, x5, x6, x7, x8, x9, y0, y1, y2, y3, y4, y5, y6, y7, y8, y9]) rfl (by rw [HRE.out]; exact ⟨rfl, HEE.out.drew.ta, HEE.out.drew.tb, HEE.out.drew.bl⟩)
      · have e3 : (b1.phase == 1) = false := by rw [beq_eq_false_iff_ne]; exact h2
        clear hA hB h1 h2
        go_upto_region 3 with fail
        have HSW := Lib.hid (RnS.next HS.out (below_drew1 (Below.refl _ _)))
        refine wp_region_held_drew (S := (fun W' => RxS W' w.heap.size (w.heap.size + 1) a1 b1 (.slice ao m cp) (.slice bo n dp))) (by kernel_rfl) (rx_s HSW.out.ra HSW.out.rb) (fun hHeld => ?_)
        refine wpAnyH_takeD (i := 0) (d := 16) (v := ?i0) rfl rfl (by kernel_rfl) (by kernel_rfl) (by kernel_rfl) (fun _ _ _ h => h) (Or.inl ⟨by rfl, ?yi0⟩) (by assumption) ?ri0
        case yi0 => (intro w hSw; (try dsimp only at hSw); go_simp <;> with_reducible rfl)
        try simp only [Act.put, List.setIfInBounds_toArray, List.set_cons_zero, List.set_cons_succ]
        refine wpAnyH_takeD (i := 1) (d := 17) (v := ?i1) rfl rfl (by kernel_rfl) (by kernel_rfl) (by kernel_rfl) (fun _ _ _ h => h) (Or.inl ⟨by rfl, ?yi1⟩) (by assumption) ?ri1
        case yi1 => (intro w hSw; (try dsimp only at hSw); go_simp <;> with_reducible rfl)
        try simp only [Act.put, List.setIfInBounds_toArray, List.set_cons_zero, List.set_cons_succ]
        refine wpAnyH_takeD (i := 2) (d := 18) (v := ?i2) rfl rfl (by kernel_rfl) (by kernel_rfl) (by kernel_rfl) (fun _ _ _ h => h) (Or.inl ⟨by rfl, ?yi2⟩) (by assumption) ?ri2
        case yi2 => (intro w hSw; (try dsimp only at hSw); go_simp <;> with_reducible rfl)
        try simp only [Act.put, List.setIfInBounds_toArray, List.set_cons_zero, List.set_cons_succ]
        obtain ⟨⟨x0, x1, x2, x3, x4, x5, x6, x7, x8, x9⟩, ⟨u0, u1, u2, u3, u4, u5, u6, u7, u8, u9⟩⟩ := cv_readsZ (RnS.r2 HS.out)
        refine wpAnyH_ready (rs := [3]) (by kernel_rfl) (by simp) ?_
        refine AllReadyH.cons rfl (fun K hK => ?_) AllReadyH.nil
        go_simp
        have hq := cv_stored ((.int .i64 a1.id)) ((.string (T a1.proto))) ((.int .i64 a1.role)) ((.int .i64 a1.phase)) ((.int .i64 a1.step)) (((.slice ao m cp))) ((.string (T a1.own))) ((.string (T a1.peer))) ((.string (T a1.user))) ((.int .i64 a1.err)) HS.out.r2
        generalize World.setCell _ _ _ = W4 at *
        have HE2 := Lib.hid hq.1
        have HE3 := Lib.hid (grown_keep hq.2 HS.out.r3 (by omega))
        have HE := Lib.hid (RnE.grown HS.out.e hq.2 (by omega) HFA.out HFB.out)
        clear hq HSW
        clear x0 x1 x2 x3 x4 x5 x6 x7 x8 x9 u0 u1 u2 u3 u4 u5 u6 u7 u8 u9
        refine hK.out _ _ (rx_s HE.out.drew.ra HE.out.drew.rb) (fun hHeld => ?_)
        clear hK K
        try simp only [Act.put, List.setIfInBounds_toArray, List.set_cons_zero, List.set_cons_succ]
        obtain ⟨⟨x0, x1, x2, x3, x4, x5, x6, x7, x8, x9⟩, ⟨u0, u1, u2, u3, u4, u5, u6, u7, u8, u9⟩⟩ := cv_readsZ HE3.out
        refine wpAnyH_ready (rs := [4]) (by kernel_rfl) (by simp) ?_
        refine AllReadyH.cons rfl (fun K hK => ?_) AllReadyH.nil
        go_simp
        have hq := cv_stored ((.int .i64 b1.id)) ((.string (T b1.proto))) ((.int .i64 b1.role)) ((.int .i64 b1.phase)) ((.int .i64 b1.step)) (((.slice bo n dp))) ((.string (T b1.own))) ((.string (T b1.peer))) ((.string (T b1.user))) ((.int .i64 b1.err)) HE3.out
        generalize World.setCell _ _ _ = W5 at *
        have HE4 := Lib.hid (grown_keep hq.2 HE2.out (by omega))
        have HE5 := Lib.hid hq.1
        have HEE := Lib.hid (RnE.grown HE.out hq.2 (by omega) HFA.out HFB.out)
        clear hq HE HE2 HE3
        clear x0 x1 x2 x3 x4 x5 x6 x7 x8 x9 u0 u1 u2 u3 u4 u5 u6 u7 u8 u9
        refine hK.out _ _ (rx_s HEE.out.drew.ra HEE.out.drew.rb) (fun hHeld => ?_)
        clear hK K
        try simp only [Act.put, List.setIfInBounds_toArray, List.set_cons_zero, List.set_cons_succ]
        refine wpAnyH_takeD (i := 5) (d := 6) (v := ?i5) rfl rfl (by kernel_rfl) (by kernel_rfl) (by kernel_rfl) (fun _ _ _ h => h) (Or.inl ⟨by rfl, ?yi5⟩) (by assumption) ?ri5
        case yi5 => (intro w hSw; (try dsimp only at hSw); go_simp <;> with_reducible rfl)
        try simp only [Act.put, List.setIfInBounds_toArray, List.set_cons_zero, List.set_cons_succ]
        refine wpAnyH_done (by kernel_rfl) ?_ _
        clear hHeld
        obtain ⟨⟨x0, x1, x2, x3, x4, x5, x6, x7, x8, x9⟩, _⟩ := cv_readsZ HE4.out
        obtain ⟨⟨y0, y1, y2, y3, y4, y5, y6, y7, y8, y9⟩, _⟩ := cv_readsZ HE5.out
        go_wp2_with fail
        exact bodyPost_ret (v := .tuple #[.agg #[.int .i64 a1.id, .string (T a1.proto), .int .i64 a1.role, .int .i64 a1.phase, .int .i64 a1.step, (.slice ao m cp), .string (T a1.own), .string (T a1.peer), .string (T a1.user), .int .i64 a1.err], .agg #[.int .i64 b1.id, .string (T b1.proto), .int .i64 b1.role, .int .i64 b1.phase, .int .i64 b1.step, (.slice bo n dp), .string (T b1.own), .string (T b1.peer), .string (T b1.user), .int .i64 b1.err], .int .i64 (k : Int)]) (by simp [results, Tryz.results17, go_sem, x0, x1, x2, x3, x4, x5, x6, x7, x8, x9, y0, y1, y2, y3, y4, y5, y6, y7, y8, y9]) rfl (by rw [HRE.out]; exact ⟨rfl, HEE.out.drew.ta, HEE.out.drew.tb, HEE.out.drew.bl⟩)
end Go.Proofs.YtjjdaelddicokaaGreatDoor
set_option linter.unusedVariables false
set_option linter.unusedSimpArgs false
namespace Go.Proofs.YtjjdaelddicokaaGreatDoor
open Go.RowKit
open Au (Att Cnv)
theorem rrun_bx (a b A B : Cnv) (r : Int) (h : Au.run 16 0 a b = (A, B, r)) (hra : Au.Rt a) (hrb : Au.Rt b) (ao bo : Option Addr) (m cp n dp : Nat) (w : World) (ha : Atts w (.slice ao m cp) a.key) (hb : Atts w (.slice bo n dp) b.key) (hfa : Fine a) (hfb : Fine b) (hsa : 0 ≤ a.step ∧ a.step ≤ 1000) (hsb : 0 ≤ b.step ∧ b.step ≤ 1000) (hK : KIn w) :
    Calls Tryz.prog 17 #[.agg #[.int .i64 a.id, .string (T a.proto), .int .i64 a.role, .int .i64 a.phase, .int .i64 a.step, (.slice ao m cp), .string (T a.own), .string (T a.peer), .string (T a.user), .int .i64 a.err], .agg #[.int .i64 b.id, .string (T b.proto), .int .i64 b.role, .int .i64 b.phase, .int .i64 b.step, (.slice bo n dp), .string (T b.own), .string (T b.peer), .string (T b.user), .int .i64 b.err]] w fun e w' => e = .returned (.tuple #[.agg #[.int .i64 A.id, .string (T A.proto), .int .i64 A.role, .int .i64 A.phase, .int .i64 A.step, (.slice ao m cp), .string (T A.own), .string (T A.peer), .string (T A.user), .int .i64 A.err], .agg #[.int .i64 B.id, .string (T B.proto), .int .i64 B.role, .int .i64 B.phase, .int .i64 B.step, (.slice bo n dp), .string (T B.own), .string (T B.peer), .string (T B.user), .int .i64 B.err], .int .i64 r]) ∧ Atts w' (.slice ao m cp) A.key ∧ Atts w' (.slice bo n dp) B.key ∧ Below w.heap.size w w' :=
  (rrun_any a b hra hrb ao bo m cp n dp w ha hb hfa hfb hsa hsb hK).mono fun e w' h' => by
    unfold RrnR at h'
    rw [h] at h'
    exact h'
theorem run_fine : ∀ (k : Nat) (n : Int) (a b : Cnv), Fine a → Fine b → Fine (Au.run k n a b).1 ∧ Fine (Au.run k n a b).2.1 := by
  intro k
  induction k with
  | zero => intro n a b ha hb; exact ⟨ha, hb⟩
  | succ k ih =>
    intro n a b ha hb
    rw [Au.run]
    split
    · exact ih _ _ _ (Au.read_fine ha) (Au.write_fine hb _)
    · split
      · exact ih _ _ _ (Au.write_fine ha _) (Au.read_fine hb)
      · exact ⟨ha, hb⟩
set_option maxRecDepth 100000 in
set_option maxHeartbeats 16000000 in
theorem runs_T (a b : Cnv) (va vb : Value) (w : World) (ha : Atts w va a.key) (hb : Atts w vb b.key) (hK : KIn w) :
    Calls Tryz.prog 4 #[.agg #[.int .i64 a.id, .string (T a.proto), .int .i64 a.role, .int .i64 a.phase, .int .i64 a.step, va, .string (T a.own), .string (T a.peer), .string (T a.user), .int .i64 a.err], .agg #[.int .i64 b.id, .string (T b.proto), .int .i64 b.role, .int .i64 b.phase, .int .i64 b.step, vb, .string (T b.own), .string (T b.peer), .string (T b.user), .int .i64 b.err]] w fun e w' => e = .returned (.bool true) ∧ Below w.heap.size w w' := by
  obtain ⟨ao, m, cp, rfl⟩ := ha.form
  obtain ⟨bo, n, dp, rfl⟩ := hb.form
  have HKA := Lib.hid ha
  have HKB := Lib.hid hb
  have HAL := Lib.hid (fun (W : World) (h : Below w.heap.size w W) => awake_any W (hK.below h))
  have HKI := Lib.hid (fun (W : World) (h : Below w.heap.size w W) => hK.below h)
  have HFA := Lib.hid (fun (W : World) (h : Atts W (.slice ao m cp) a.key) => fair_any a (.slice ao m cp) W h)
  have HFB := Lib.hid (fun (W : World) (h : Atts W (.slice bo n dp) b.key) => fair_any b (.slice bo n dp) W h)
  clear ha hb hK
  cases hfr : Au.fair a with
  | false =>
    rw [hfr] at HFA
    clear hfr
    go_enter Tryz.func4, Tryz.ntmps4
    go_upto_region 1 with fail
    have hx1 := bx_two (A := a) (B := b) HKA.out HKB.out
    generalize World.alloc _ _ = V1 at *
    have HX1 := Lib.hid hx1.1
    have HY1 := Lib.hid hx1.2.1
    have HBV1 := Lib.hid hx1.2.2
    clear hx1 HKA HKB
    obtain ⟨⟨x0, x1, x2, x3, x4, x5, x6, x7, x8, x9⟩, _⟩ := cv_reads (Bx.row (HX1.out.next (Below.refl _ _)))
    go_wp2_with fail
    (with_reducible refine (HFA.out _ (Bx.att (HX1.out.next (Below.refl _ _)))).mono ?_); rintro e v2 ⟨rfl, hbl⟩
    clear x0 x1 x2 x3 x4 x5 x6 x7 x8 x9
    have HBW3 := Lib.hid (hbl)
    clear hbl
    go_wp2_with fail
    (with_reducible refine (HAL.out _ (bnext HBV1.out HBW3.out)).mono ?_); rintro e v4 ⟨rfl, hbz⟩
    have HBW5 := Lib.hid (hbz)
    clear hbz
    have HE := Lib.hid (bnext (bnext HBV1.out HBW3.out) HBW5.out)
    go_wp2_with fail
    go_ret
    exact ⟨rfl, HE.out⟩
  | true =>
    have hfa := (Au.fair_fine hfr).1
    rw [hfr] at HFA
    clear hfr
    cases hfr : Au.fair b with
    | false =>
      rw [hfr] at HFB
      clear hfr hfa
      go_enter Tryz.func4, Tryz.ntmps4
      go_upto_region 1 with fail
      have hx1 := bx_two (A := a) (B := b) HKA.out HKB.out
      generalize World.alloc _ _ = V1 at *
      have HX1 := Lib.hid hx1.1
      have HY1 := Lib.hid hx1.2.1
      have HBV1 := Lib.hid hx1.2.2
      clear hx1 HKA HKB
      obtain ⟨⟨x0, x1, x2, x3, x4, x5, x6, x7, x8, x9⟩, _⟩ := cv_reads (Bx.row (HX1.out.next (Below.refl _ _)))
      go_wp2_with fail
      (with_reducible refine (HFA.out _ (Bx.att (HX1.out.next (Below.refl _ _)))).mono ?_); rintro e v2 ⟨rfl, hbl⟩
      clear x0 x1 x2 x3 x4 x5 x6 x7 x8 x9
      have HBW3 := Lib.hid (hbl)
      clear hbl
      obtain ⟨⟨x0, x1, x2, x3, x4, x5, x6, x7, x8, x9⟩, _⟩ := cv_reads (Bx.row (HY1.out.next HBW3.out))
      go_wp2_with fail
      (with_reducible refine (HFB.out _ (Bx.att (HY1.out.next HBW3.out))).mono ?_); rintro e v4 ⟨rfl, hbl⟩
      clear x0 x1 x2 x3 x4 x5 x6 x7 x8 x9
      have HBW5 := Lib.hid (hbl)
      clear hbl
      go_wp2_with fail
      (with_reducible refine (HAL.out _ (bnext (bnext HBV1.out HBW3.out) HBW5.out)).mono ?_); rintro e v6 ⟨rfl, hbz⟩
      have HBW7 := Lib.hid (hbz)
      clear hbz
      have HE := Lib.hid (bnext (bnext (bnext HBV1.out HBW3.out) HBW5.out) HBW7.out)
      go_wp2_with fail
      go_ret
      exact ⟨rfl, HE.out⟩
    | true =>
      have hfb := (Au.fair_fine hfr).1
      rw [hfr] at HFB
      clear hfr
      have HRA := Lib.hid (fun (W : World) (h : Atts W (.slice ao m cp) a.key) => rright_any a ao m cp W h hfa)
      have HRB := Lib.hid (fun (W : World) (h : Atts W (.slice bo n dp) b.key) => rright_any b bo n dp W h hfb)
      cases hri : Au.right a with
      | false =>
        rw [hri] at HRA
        clear hri hfa hfb
        go_enter Tryz.func4, Tryz.ntmps4
        go_upto_region 1 with fail
        have hx1 := bx_two (A := a) (B := b) HKA.out HKB.out
        generalize World.alloc _ _ = V1 at *
        have HX1 := Lib.hid hx1.1
        have HY1 := Lib.hid hx1.2.1
        have HBV1 := Lib.hid hx1.2.2
        clear hx1 HKA HKB
        obtain ⟨⟨x0, x1, x2, x3, x4, x5, x6, x7, x8, x9⟩, _⟩ := cv_reads (Bx.row (HX1.out.next (Below.refl _ _)))
        go_wp2_with fail
        (with_reducible refine (HFA.out _ (Bx.att (HX1.out.next (Below.refl _ _)))).mono ?_); rintro e v2 ⟨rfl, hbl⟩
        clear x0 x1 x2 x3 x4 x5 x6 x7 x8 x9
        have HBW3 := Lib.hid (hbl)
        clear hbl
        obtain ⟨⟨x0, x1, x2, x3, x4, x5, x6, x7, x8, x9⟩, _⟩ := cv_reads (Bx.row (HY1.out.next HBW3.out))
        go_wp2_with fail
        (with_reducible refine (HFB.out _ (Bx.att (HY1.out.next HBW3.out))).mono ?_); rintro e v4 ⟨rfl, hbl⟩
        clear x0 x1 x2 x3 x4 x5 x6 x7 x8 x9
        have HBW5 := Lib.hid (hbl)
        clear hbl
        obtain ⟨⟨x0, x1, x2, x3, x4, x5, x6, x7, x8, x9⟩, _⟩ := cv_reads (Bx.row (HX1.out.next (bnext HBW3.out HBW5.out)))
        go_wp2_with fail
        (with_reducible refine (HRA.out _ (Bx.att (HX1.out.next (bnext HBW3.out HBW5.out)))).mono ?_); rintro e v6 ⟨rfl, hbl⟩
        clear x0 x1 x2 x3 x4 x5 x6 x7 x8 x9
        have HBW7 := Lib.hid (hbl)
        clear hbl
        go_wp2_with fail
        (with_reducible refine (HAL.out _ (bnext (bnext (bnext HBV1.out HBW3.out) HBW5.out) HBW7.out)).mono ?_); rintro e v8 ⟨rfl, hbz⟩
        have HBW9 := Lib.hid (hbz)
        clear hbz
        have HE := Lib.hid (bnext (bnext (bnext (bnext HBV1.out HBW3.out) HBW5.out) HBW7.out) HBW9.out)
        go_wp2_with fail
        go_ret
        exact ⟨rfl, HE.out⟩
      | true =>
        have hra := Au.rt_of hri
        rw [hri] at HRA
        clear hri
        cases hri : Au.right b with
        | false =>
          rw [hri] at HRB
          clear hri hra hfa hfb
          go_enter Tryz.func4, Tryz.ntmps4
          go_upto_region 1 with fail
          have hx1 := bx_two (A := a) (B := b) HKA.out HKB.out
          generalize World.alloc _ _ = V1 at *
          have HX1 := Lib.hid hx1.1
          have HY1 := Lib.hid hx1.2.1
          have HBV1 := Lib.hid hx1.2.2
          clear hx1 HKA HKB
          obtain ⟨⟨x0, x1, x2, x3, x4, x5, x6, x7, x8, x9⟩, _⟩ := cv_reads (Bx.row (HX1.out.next (Below.refl _ _)))
          go_wp2_with fail
          (with_reducible refine (HFA.out _ (Bx.att (HX1.out.next (Below.refl _ _)))).mono ?_); rintro e v2 ⟨rfl, hbl⟩
          clear x0 x1 x2 x3 x4 x5 x6 x7 x8 x9
          have HBW3 := Lib.hid (hbl)
          clear hbl
          obtain ⟨⟨x0, x1, x2, x3, x4, x5, x6, x7, x8, x9⟩, _⟩ := cv_reads (Bx.row (HY1.out.next HBW3.out))
          go_wp2_with fail
          (with_reducible refine (HFB.out _ (Bx.att (HY1.out.next HBW3.out))).mono ?_); rintro e v4 ⟨rfl, hbl⟩
          clear x0 x1 x2 x3 x4 x5 x6 x7 x8 x9
          have HBW5 := Lib.hid (hbl)
          clear hbl
          obtain ⟨⟨x0, x1, x2, x3, x4, x5, x6, x7, x8, x9⟩, _⟩ := cv_reads (Bx.row (HX1.out.next (bnext HBW3.out HBW5.out)))
          go_wp2_with fail
          (with_reducible refine (HRA.out _ (Bx.att (HX1.out.next (bnext HBW3.out HBW5.out)))).mono ?_); rintro e v6 ⟨rfl, hbl⟩
          clear x0 x1 x2 x3 x4 x5 x6 x7 x8 x9
          have HBW7 := Lib.hid (hbl)
          clear hbl
          obtain ⟨⟨x0, x1, x2, x3, x4, x5, x6, x7, x8, x9⟩, _⟩ := cv_reads (Bx.row (HY1.out.next (bnext (bnext HBW3.out HBW5.out) HBW7.out)))
          go_wp2_with fail
          (with_reducible refine (HRB.out _ (Bx.att (HY1.out.next (bnext (bnext HBW3.out HBW5.out) HBW7.out)))).mono ?_); rintro e v8 ⟨rfl, hbl⟩
          clear x0 x1 x2 x3 x4 x5 x6 x7 x8 x9
          have HBW9 := Lib.hid (hbl)
          clear hbl
          go_wp2_with fail
          (with_reducible refine (HAL.out _ (bnext (bnext (bnext (bnext HBV1.out HBW3.out) HBW5.out) HBW7.out) HBW9.out)).mono ?_); rintro e v10 ⟨rfl, hbz⟩
          have HBW11 := Lib.hid (hbz)
          clear hbz
          have HE := Lib.hid (bnext (bnext (bnext (bnext (bnext HBV1.out HBW3.out) HBW5.out) HBW7.out) HBW9.out) HBW11.out)
          go_wp2_with fail
          go_ret
          exact ⟨rfl, HE.out⟩
        | true =>
          have hrb := Au.rt_of hri
          rw [hri] at HRB
          clear hri
          have sa := hra.st3
          have sb := hrb.st3
          have hrr := Au.run_rt 16 0 a b hra hrb
          have hff := run_fine 16 0 a b hfa hfb
          obtain ⟨A, B, r, hR⟩ : ∃ A B r, Au.run 16 0 a b = (A, B, r) := ⟨_, _, _, rfl⟩
          rw [hR] at hrr hff
          have hpa : Au.right A = true := hrr.1.right
          have hpb : Au.right B = true := hrr.2.right
          have fA : Fine A := hff.1
          have fB : Fine B := hff.2
          have HRN := Lib.hid (fun ao bo m cp n dp (W : World) (h : Atts W (.slice ao m cp) a.key) (h2 : Atts W (.slice bo n dp) b.key) (hk : KIn W) => run_bx a b A B r hR ao bo m cp n dp W h h2 hfa hfb ⟨sa.1, by omega⟩ ⟨sb.1, by omega⟩ hk)
          have HRM := Lib.hid (fun (W : World) (h : Atts W (.slice ao m cp) a.key) (h2 : Atts W (.slice bo n dp) b.key) (hk : KIn W) => rrun_bx a b A B r hR hra hrb ao bo m cp n dp W h h2 hfa hfb ⟨sa.1, by omega⟩ ⟨sb.1, by omega⟩ hk)
          have HSA := Lib.hid (fun v1 v2 (W : World) (h : Atts W v1 A.key) (h2 : Atts W v2 A.key) => same_any A v1 v2 W h h2 (by have := fA.kl; omega))
          have HSB := Lib.hid (fun v1 v2 (W : World) (h : Atts W v1 B.key) (h2 : Atts W v2 B.key) => same_any B v1 v2 W h h2 (by have := fB.kl; omega))
          have HPA := Lib.hid (fun ao m cp (W : World) (h : Atts W (.slice ao m cp) A.key) => aright_any A ao m cp W h fA)
          have HPB := Lib.hid (fun ao m cp (W : World) (h : Atts W (.slice ao m cp) B.key) => aright_any B ao m cp W h fB)
          rw [hpa] at HPA
          rw [hpb] at HPB
          clear hra hrb sa sb hrr hff hR hpa hpb fA fB hfa hfb
          go_enter Tryz.func4, Tryz.ntmps4
          go_upto_region 1 with fail
          have hx1 := bx_two (A := a) (B := b) HKA.out HKB.out
          generalize World.alloc _ _ = V1 at *
          have HX1 := Lib.hid hx1.1
          have HY1 := Lib.hid hx1.2.1
          have HBV1 := Lib.hid hx1.2.2
          clear hx1 HKA HKB
          obtain ⟨⟨x0, x1, x2, x3, x4, x5, x6, x7, x8, x9⟩, _⟩ := cv_reads (Bx.row (HX1.out.next (Below.refl _ _)))
          go_wp2_with fail
          (with_reducible refine (HFA.out _ (Bx.att (HX1.out.next (Below.refl _ _)))).mono ?_); rintro e v2 ⟨rfl, hbl⟩
          clear x0 x1 x2 x3 x4 x5 x6 x7 x8 x9
          have HBW3 := Lib.hid (hbl)
          clear hbl
          obtain ⟨⟨x0, x1, x2, x3, x4, x5, x6, x7, x8, x9⟩, _⟩ := cv_reads (Bx.row (HY1.out.next HBW3.out))
          go_wp2_with fail
          (with_reducible refine (HFB.out _ (Bx.att (HY1.out.next HBW3.out))).mono ?_); rintro e v4 ⟨rfl, hbl⟩
          clear x0 x1 x2 x3 x4 x5 x6 x7 x8 x9
          have HBW5 := Lib.hid (hbl)
          clear hbl
          obtain ⟨⟨x0, x1, x2, x3, x4, x5, x6, x7, x8, x9⟩, _⟩ := cv_reads (Bx.row (HX1.out.next (bnext HBW3.out HBW5.out)))
          go_wp2_with fail
          (with_reducible refine (HRA.out _ (Bx.att (HX1.out.next (bnext HBW3.out HBW5.out)))).mono ?_); rintro e v6 ⟨rfl, hbl⟩
          clear x0 x1 x2 x3 x4 x5 x6 x7 x8 x9
          have HBW7 := Lib.hid (hbl)
          clear hbl
          obtain ⟨⟨x0, x1, x2, x3, x4, x5, x6, x7, x8, x9⟩, _⟩ := cv_reads (Bx.row (HY1.out.next (bnext (bnext HBW3.out HBW5.out) HBW7.out)))
          go_wp2_with fail
          (with_reducible refine (HRB.out _ (Bx.att (HY1.out.next (bnext (bnext HBW3.out HBW5.out) HBW7.out)))).mono ?_); rintro e v8 ⟨rfl, hbl⟩
          clear x0 x1 x2 x3 x4 x5 x6 x7 x8 x9
          have HBW9 := Lib.hid (hbl)
          clear hbl
          obtain ⟨⟨x0, x1, x2, x3, x4, x5, x6, x7, x8, x9⟩, _⟩ := cv_reads (Bx.row (HX1.out.next (bnext (bnext (bnext HBW3.out HBW5.out) HBW7.out) HBW9.out)))
          obtain ⟨⟨y0, y1, y2, y3, y4, y5, y6, y7, y8, y9⟩, _⟩ := cv_reads (Bx.row (HY1.out.next (bnext (bnext (bnext HBW3.out HBW5.out) HBW7.out) HBW9.out)))
          go_wp2_with fail
          (with_reducible refine (HRN.out _ _ _ _ _ _ _ (Bx.att (HX1.out.next (bnext (bnext (bnext HBW3.out HBW5.out) HBW7.out) HBW9.out))) (Bx.att (HY1.out.next (bnext (bnext (bnext HBW3.out HBW5.out) HBW7.out) HBW9.out))) (HKI.out _ (bnext (bnext (bnext (bnext HBV1.out HBW3.out) HBW5.out) HBW7.out) HBW9.out))).mono ?_); rintro e v10 ⟨a1, a2, a3, b1, b2, b3, rfl, hta, htb, hbl⟩
          clear x0 x1 x2 x3 x4 x5 x6 x7 x8 x9 y0 y1 y2 y3 y4 y5 y6 y7 y8 y9
          have HBW11 := Lib.hid (hbl)
          clear hbl
          have HTA := Lib.hid hta
          have HTB := Lib.hid htb
          clear hta htb
          go_upto_region 4 with fail
          have hx12 := bx_two (A := A) (B := B) HTA.out HTB.out
          generalize World.alloc _ _ = V12 at *
          have HX12 := Lib.hid hx12.1
          have HY12 := Lib.hid hx12.2.1
          have HBV12 := Lib.hid hx12.2.2
          clear hx12 HTA HTB
          obtain ⟨⟨x0, x1, x2, x3, x4, x5, x6, x7, x8, x9⟩, _⟩ := cv_reads (Bx.row (HX1.out.next (bnext (bnext (bnext (bnext (bnext HBW3.out HBW5.out) HBW7.out) HBW9.out) HBW11.out) HBV12.out)))
          obtain ⟨⟨y0, y1, y2, y3, y4, y5, y6, y7, y8, y9⟩, _⟩ := cv_reads (Bx.row (HY1.out.next (bnext (bnext (bnext (bnext (bnext HBW3.out HBW5.out) HBW7.out) HBW9.out) HBW11.out) HBV12.out)))
          go_wp2_with fail
          (with_reducible refine (HRM.out _ (Bx.att (HX1.out.next (bnext (bnext (bnext (bnext (bnext HBW3.out HBW5.out) HBW7.out) HBW9.out) HBW11.out) HBV12.out))) (Bx.att (HY1.out.next (bnext (bnext (bnext (bnext (bnext HBW3.out HBW5.out) HBW7.out) HBW9.out) HBW11.out) HBV12.out))) (HKI.out _ (bnext (bnext (bnext (bnext (bnext (bnext HBV1.out HBW3.out) HBW5.out) HBW7.out) HBW9.out) HBW11.out) HBV12.out))).mono ?_); rintro e v13 ⟨rfl, hta, htb, hbl⟩
          clear x0 x1 x2 x3 x4 x5 x6 x7 x8 x9 y0 y1 y2 y3 y4 y5 y6 y7 y8 y9
          have HBW14 := Lib.hid (hbl)
          clear hbl
          have HTA := Lib.hid hta
          have HTB := Lib.hid htb
          clear hta htb
          go_upto_region 5 with fail
          have hx15 := bx_two (A := A) (B := B) HTA.out HTB.out
          generalize World.alloc _ _ = V15 at *
          have HX15 := Lib.hid hx15.1
          have HY15 := Lib.hid hx15.2.1
          have HBV15 := Lib.hid hx15.2.2
          clear hx15 HTA HTB
          obtain ⟨⟨x0, x1, x2, x3, x4, x5, x6, x7, x8, x9⟩, _⟩ := cv_reads (Bx.row (HX12.out.next (bnext HBW14.out HBV15.out)))
          obtain ⟨⟨y0, y1, y2, y3, y4, y5, y6, y7, y8, y9⟩, _⟩ := cv_reads (Bx.row (HX15.out.next (Below.refl _ _)))
          go_wp2_with fail
          (with_reducible refine (HSA.out _ _ _ (Bx.att (HX12.out.next (bnext HBW14.out HBV15.out))) (Bx.att (HX15.out.next (Below.refl _ _)))).mono ?_); rintro e v16 ⟨rfl, hbl⟩
          clear x0 x1 x2 x3 x4 x5 x6 x7 x8 x9 y0 y1 y2 y3 y4 y5 y6 y7 y8 y9
          have HBW17 := Lib.hid (hbl)
          clear hbl
          obtain ⟨⟨x0, x1, x2, x3, x4, x5, x6, x7, x8, x9⟩, _⟩ := cv_reads (Bx.row (HY12.out.next (bnext (bnext HBW14.out HBV15.out) HBW17.out)))
          obtain ⟨⟨y0, y1, y2, y3, y4, y5, y6, y7, y8, y9⟩, _⟩ := cv_reads (Bx.row (HY15.out.next HBW17.out))
          go_wp2_with fail
          (with_reducible refine (HSB.out _ _ _ (Bx.att (HY12.out.next (bnext (bnext HBW14.out HBV15.out) HBW17.out))) (Bx.att (HY15.out.next HBW17.out))).mono ?_); rintro e v18 ⟨rfl, hbl⟩
          clear x0 x1 x2 x3 x4 x5 x6 x7 x8 x9 y0 y1 y2 y3 y4 y5 y6 y7 y8 y9
          have HBW19 := Lib.hid (hbl)
          clear hbl
          obtain ⟨⟨x0, x1, x2, x3, x4, x5, x6, x7, x8, x9⟩, _⟩ := cv_reads (Bx.row (HX12.out.next (bnext (bnext (bnext HBW14.out HBV15.out) HBW17.out) HBW19.out)))
          go_wp2_with fail
          (with_reducible refine (HPA.out _ _ _ _ (Bx.att (HX12.out.next (bnext (bnext (bnext HBW14.out HBV15.out) HBW17.out) HBW19.out)))).mono ?_); rintro e v20 ⟨rfl, hbl⟩
          clear x0 x1 x2 x3 x4 x5 x6 x7 x8 x9
          have HBW21 := Lib.hid (hbl)
          clear hbl
          obtain ⟨⟨x0, x1, x2, x3, x4, x5, x6, x7, x8, x9⟩, _⟩ := cv_reads (Bx.row (HY12.out.next (bnext (bnext (bnext (bnext HBW14.out HBV15.out) HBW17.out) HBW19.out) HBW21.out)))
          go_wp2_with fail
          (with_reducible refine (HPB.out _ _ _ _ (Bx.att (HY12.out.next (bnext (bnext (bnext (bnext HBW14.out HBV15.out) HBW17.out) HBW19.out) HBW21.out)))).mono ?_); rintro e v22 ⟨rfl, hbl⟩
          clear x0 x1 x2 x3 x4 x5 x6 x7 x8 x9
          have HBW23 := Lib.hid (hbl)
          clear hbl
          go_wp2_with fail
          (with_reducible refine (HAL.out _ (bnext (bnext (bnext (bnext (bnext (bnext (bnext (bnext (bnext (bnext (bnext (bnext HBV1.out HBW3.out) HBW5.out) HBW7.out) HBW9.out) HBW11.out) HBV12.out) HBW14.out) HBV15.out) HBW17.out) HBW19.out) HBW21.out) HBW23.out)).mono ?_); rintro e v24 ⟨rfl, hbz⟩
          have HBW25 := Lib.hid (hbz)
          clear hbz
          have HE := Lib.hid (bnext (bnext (bnext (bnext (bnext (bnext (bnext (bnext (bnext (bnext (bnext (bnext (bnext HBV1.out HBW3.out) HBW5.out) HBW7.out) HBW9.out) HBW11.out) HBV12.out) HBW14.out) HBV15.out) HBW17.out) HBW19.out) HBW21.out) HBW23.out) HBW25.out)
          go_wp2_with fail
          go_ret
          exact ⟨rfl, HE.out⟩
end Go.Proofs.YtjjdaelddicokaaGreatDoor
set_option linter.unusedVariables false
set_option linter.unusedSimpArgs false
namespace Go.Proofs.YtjjdaelddicokaaGreatDoor
open Go.RowKit Go.ChangeShapes Go.WideShapes Go.ChangeAt
open Go.ChangeMaps (open_string shut_string)
open Au (Att Cnv)
section
variable {H : Type} {enc : TypeId × Value → H} {W : World} {base : Nat} {spare : Nat → Bool} {held : Bool}
instance : Inhabited Att := ⟨⟨[], [], false⟩⟩
theorem cell_attrs {n : Nat} {V : Value} {x : DataW H × List MemPlace} (h : DataW.trod enc Tryz.prog W base spare held n 22 [V] = some x) : ∃ l, Atts W V l ∧ l.length ≤ maxLen := by
  rcases Go.Deep.open_slice Tryz.underlying22 h with ⟨hcs, _⟩ | ⟨a, len, cap, m, n, D, Pl, hcs, _, hl, hm, hz, _, hcell⟩
  · obtain rfl : V = .slice none 0 0 := by simpa using hcs
    exact ⟨[], atts_nil _, Nat.zero_le _⟩
  · obtain rfl : V = .slice (some a) len cap := by simpa using hcs
    have hlm : len ≤ m := by rw [hz]; split <;> omega
    by_cases h0 : len = 0
    · subst h0
      exact ⟨[], ⟨some a, cap, rfl, hl, (fun h => nomatch h), fun j hj => by simp at hj⟩, Nat.zero_le _⟩
    · have key : ∀ i, i < len → ∃ b : Att, W.cell? (a.add (i * 3)) = some (.string (T b.name)) ∧ W.cell? (a.add (i * 3 + 1)) = some (.string (T b.value)) ∧ W.cell? (a.add (i * 3 + 2)) = some (.bool b.query) := fun i hi => by
        obtain ⟨cs, hcs', ht⟩ := hcell i (by omega)
        rw [show Tryz.prog.cellsOf 52 = 3 from by kernel_rfl] at hcs'
        obtain ⟨_, hlen, hget⟩ := World.cells?_some hcs'
        obtain ⟨k0, k1, k2, rfl⟩ : ∃ k0 k1 k2, cs = [k0, k1, k2] := by
          match cs, hlen with
          | [k0, k1, k2], _ => exact ⟨k0, k1, k2, rfl⟩
        obtain ⟨y0, y1, y2, n', _, _, t0, t1, t2⟩ := Go.Deep.trod_struct3 Tryz.underlying52 ht
        have e1 : Tryz.prog.cellsOf 9 = 1 := by kernel_rfl
        have e2 : Tryz.prog.cellsOf 4 = 1 := by kernel_rfl
        obtain ⟨s0, z0, _⟩ := DataW.trod_string Tryz.underlying9 t0
        obtain ⟨s1, z1, _⟩ := DataW.trod_string Tryz.underlying9 t1
        obtain ⟨i2, z2, _⟩ := DataW.trod_bool Tryz.underlying4 t2
        have q0 := hget 0 (by omega)
        have q1 := hget 1 (by omega)
        have q2 := hget 2 (by omega)
        rw [Go.Deep.add_add] at q0 q1 q2
        have u0 : k0 = .string s0 := by simpa [e1, e2] using z0
        have u1 : k1 = .string s1 := by simpa [e1, e2] using z1
        have u2 : k2 = .bool i2 := by simpa [e1, e2] using z2
        subst u0 u1 u2
        exact ⟨⟨s0.data.toList, s1.data.toList, i2⟩, by rw [T_of]; simpa using q0, by rw [T_of]; simpa using q1, by simpa using q2⟩
      obtain ⟨f, hf'⟩ := Go.Deep.choose_lt key
      obtain ⟨hc0, _⟩ := hf' 0 (by omega)
      obtain ⟨b, off, sp⟩ := a
      obtain rfl : sp = none := by simpa [Addr.add] using World.cell?_spot hc0
      have hlen : ((List.range len).map f).length = len := by simp
      refine ⟨(List.range len).map f, ⟨some ⟨b, off, none⟩, cap, by rw [hlen], by rw [hlen]; exact hl, (fun h => nomatch h), fun j hj => ⟨b, off, rfl, block_lt_of_cell hc0, ?_⟩⟩, by rw [hlen]; omega⟩
      rw [hlen] at hj
      obtain ⟨h1, h2, h3⟩ := hf' j hj
      simp only [Addr.add_lit] at h1 h2 h3
      simp only [List.getElem_map, List.getElem_range]
      exact ⟨h1, by rw [Nat.add_assoc]; exact h2, by rw [Nat.add_assoc]; exact h3⟩
set_option maxRecDepth 20000 in
theorem open_attrs {r : Reach} {b0 : Nat} {v : Value} {d : DataW H} {p : List MemPlace} (hv : Value.okWide Tryz.prog W r b0 22 v) (h : DataW.Trod enc Tryz.prog W base spare held 22 v d p) :
    ∃ l, Atts W v l ∧ l.length ≤ 9223372036854775807 := by
  obtain ⟨a0, l0, c0, rfl⟩ := okWide_slice Tryz.underlying22 hv
  obtain ⟨fuel, hf⟩ := h
  obtain ⟨l, h1, h2⟩ := cell_attrs (V := .slice a0 l0 c0) (by simpa [Value.cells] using hf)
  exact ⟨l, h1, by unfold maxLen at h2; omega⟩
set_option maxRecDepth 20000 in
theorem open_conv {r : Reach} {b0 : Nat} {v : Value} {d : DataW H} {p : List MemPlace} (hv : Value.okWide Tryz.prog W r b0 25 v) (h : DataW.Trod enc Tryz.prog W base spare held 25 v d p) :
    ∃ (c : Cnv) (kv : Value), v = .agg #[.int .i64 c.id, .string (T c.proto), .int .i64 c.role, .int .i64 c.phase, .int .i64 c.step, kv, .string (T c.own), .string (T c.peer), .string (T c.user), .int .i64 c.err] ∧ Atts W kv c.key := by
  obtain ⟨cs, rfl, hsz⟩ := okWide_struct Tryz.underlying25 hv
  rw [show Tryz.prog.cellsOf 25 = 10 from by kernel_rfl] at hsz
  obtain ⟨c0, c1, c2, c3, c4, c5, c6, c7, c8, c9, rfl⟩ : ∃ c0 c1 c2 c3 c4 c5 c6 c7 c8 c9, cs = #[c0, c1, c2, c3, c4, c5, c6, c7, c8, c9] := by
    obtain ⟨l⟩ := cs
    match l, hsz with
    | [c0, c1, c2, c3, c4, c5, c6, c7, c8, c9], _ => exact ⟨c0, c1, c2, c3, c4, c5, c6, c7, c8, c9, rfl⟩
  obtain ⟨fuel, hf⟩ := h
  obtain ⟨xs, n, _, _, _, hlen, hfs⟩ := DataW.trod_struct Tryz.underlying25 hf
  have e1 : Tryz.prog.cellsOf 3 = 1 := by kernel_rfl
  have e2 : Tryz.prog.cellsOf 22 = 1 := by kernel_rfl
  have e3 : Tryz.prog.cellsOf 9 = 1 := by kernel_rfl
  have e4 : Tryz.prog.cellsOf 23 = 1 := by kernel_rfl
  match xs, hlen with
  | [y0, y1, y2, y3, y4, y5, y6, y7, y8, y9], _ =>
    have t0 := hfs 0 _ rfl
    have t1 := hfs 1 _ rfl
    have t2 := hfs 2 _ rfl
    have t3 := hfs 3 _ rfl
    have t4 := hfs 4 _ rfl
    have t5 := hfs 5 _ rfl
    have t6 := hfs 6 _ rfl
    have t7 := hfs 7 _ rfl
    have t8 := hfs 8 _ rfl
    have t9 := hfs 9 _ rfl
    simp [Value.cells, e1, e2, e3, e4] at t0 t1 t2 t3 t4 t5 t6 t7 t8 t9
    obtain ⟨i0, z0, _, _⟩ := DataW.trod_int Tryz.underlying3 t0
    simp only [List.cons.injEq, and_true] at z0
    subst z0
    obtain ⟨i1, z1, _⟩ := DataW.trod_string Tryz.underlying9 t1
    simp only [List.cons.injEq, and_true] at z1
    subst z1
    obtain ⟨i2, z2, _, _⟩ := DataW.trod_int Tryz.underlying3 t2
    simp only [List.cons.injEq, and_true] at z2
    subst z2
    obtain ⟨i3, z3, _, _⟩ := DataW.trod_int Tryz.underlying3 t3
    simp only [List.cons.injEq, and_true] at z3
    subst z3
    obtain ⟨i4, z4, _, _⟩ := DataW.trod_int Tryz.underlying3 t4
    simp only [List.cons.injEq, and_true] at z4
    subst z4
    obtain ⟨l, hb, hl⟩ := cell_attrs t5
    obtain ⟨i6, z6, _⟩ := DataW.trod_string Tryz.underlying9 t6
    simp only [List.cons.injEq, and_true] at z6
    subst z6
    obtain ⟨i7, z7, _⟩ := DataW.trod_string Tryz.underlying9 t7
    simp only [List.cons.injEq, and_true] at z7
    subst z7
    obtain ⟨i8, z8, _⟩ := DataW.trod_string Tryz.underlying9 t8
    simp only [List.cons.injEq, and_true] at z8
    subst z8
    obtain ⟨i9, z9, _, _⟩ := DataW.trod_int Tryz.underlying23 t9
    simp only [List.cons.injEq, and_true] at z9
    subst z9
    exact ⟨⟨i0, i1.data.toList, i2, i3, i4, l, i6.data.toList, i7.data.toList, i8.data.toList, i9⟩, c5, by simp only [T_of], hb⟩
end
end Go.Proofs.YtjjdaelddicokaaGreatDoor
