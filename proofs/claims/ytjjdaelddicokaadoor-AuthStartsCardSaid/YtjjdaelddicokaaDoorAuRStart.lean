/- What the reference's Start returns: Au.start. Conditions: keys of at most 1000 attributes with texts of at most 1000, a nonce of at most 1000. -/
import Derived.Test.YtjjdaelddicokaaDoorAuStart
import Derived.Test.YtjjdaelddicokaaDoorAppAny
set_option linter.unusedVariables false
set_option linter.unusedSimpArgs false
namespace Go.Proofs.YtjjdaelddicokaaDoor
open Go.RowKit
open Au (Att Cnv)
namespace Au
theorem rlen_known {p : List UInt8} (h : known p = true) : rlen p = len p := by
  unfold known at h
  simp only [Bool.or_eq_true, decide_eq_true_eq] at h
  rcases h with (h | h) | h <;> subst h <;> decide
theorem rlen_not {p : List UInt8} (h : known p = false) : rlen p = 0 := by
  unfold known at h
  simp only [Bool.or_eq_false_iff, decide_eq_false_iff_not] at h
  obtain ⟨⟨h1, h2⟩, h3⟩ := h
  unfold rlen
  rw [if_neg (by simp [h1, h2]), if_neg h3]
theorem rphase_known {c : Cnv} (h : known c.proto = true) : rphase c = phase c := by
  unfold rphase phase; rw [rlen_known h]
theorem rsettled_known {c : Cnv} (h : known c.proto = true) (hu : c.user = []) : rsettled c = settled c := by
  unfold rsettled settled; rw [rphase_known h, hu]
end Au
set_option maxRecDepth 20000 in
set_option maxHeartbeats 8000000 in
theorem rstart_any (proto : List UInt8) (role : Int) (kv : Value) (l : List Att) (nonce : List UInt8) (w : World) (hk : Atts w kv l) (hl : l.length ≤ 1000) (hfl : ∀ j (h : j < l.length), l[j].name.length ≤ 1000 ∧ l[j].value.length ≤ 1000) (hn : nonce.length ≤ 1000) :
    Calls Tryd.prog 24 #[.string (T proto), .int .i64 role, kv, .string (T nonce)] w (WrSays w (Au.start proto role l nonce) (Au.start proto role l nonce).1.key) := by
  obtain ⟨i0, hi, hz0, hz1, hz2⟩ := info_parts (P := Tryd.prog) (e := 53) (z := .agg #[.string ByteArray.empty, .string ByteArray.empty, .bool false]) (size := 3) (bytes := 40) (by kernel_rfl)
  obtain ⟨ao, m, cp, rfl⟩ := hk.form
  have HNIL := Lib.hid (show ao = none → m = 0 ∧ cp = 0 from fun h => by
    obtain ⟨_, _, e, h1, h2, _⟩ := hk
    cases e
    have := h2 h
    omega)
  obtain ⟨rfl, _⟩ := hk.at
  have HZ0 := Lib.hid (heap_alloc_new w (.cells #[.int .i64 0, .string (T []), .int .i64 0, .int .i64 0, .int .i64 0, .slice none 0 0, .string (T []), .string (T []), .string (T []), .int .i64 0] 28))
  have HB0 := Lib.hid ((Below.refl w.heap.size w).alloc (Nat.le_refl _) (.cells #[.int .i64 0, .string (T []), .int .i64 0, .int .i64 0, .int .i64 0, .slice none 0 0, .string (T []), .string (T []), .string (T []), .int .i64 0] 28))
  have HML := Lib.hid (fun (W : World) => rmsgs_any proto W)
  have HKE := Lib.hid (fun (W : World) (hb : Below w.heap.size w W) => rkeyerr_any (.slice ao l.length cp) l W (hk.below hb) (by omega) (fun j hj => ⟨by have := (hfl j hj).1; omega, by have := (hfl j hj).2; omega⟩))
  have HCELL := Lib.hid (fun (W : World) (hb : Below w.heap.size w W) (ad : Addr) (h : ao = some ad) => (show Atts W (.slice (some ad) l.length cp) l from by rw [← h]; exact hk.below hb).cells)
  have HFI := Lib.hid (show Fine ⟨0, proto, role, 0, 0, l, nonce, [], [], 0⟩ from ⟨hl, hfl, hn, by simp⟩)
  have HLL := Lib.hid hl
  obtain ⟨R, hR⟩ : ∃ R, Au.start proto role l nonce = R := ⟨_, rfl⟩
  have hS : R = if Au.known proto = false then (Au.zero, 53) else if (role ≠ 1 ∧ role ≠ 2) ∨ nonce.length ≠ 32 then (Au.zero, 1) else if Au.keyE l ≠ 0 then (Au.zero, Au.keyE l) else (Au.settled ⟨0, proto, role, 0, 0, l, nonce, [], [], 0⟩, 0) := by rw [← hR]; rfl
  rw [hR]
  clear hR hk hfl hl hn
  cases hkn : Au.known proto with
  | false =>
    have HF := Lib.hid (show R = (Au.zero, 53) from by rw [hS, if_pos hkn])
    rw [Au.rlen_not hkn] at HML
    clear hS hkn
    go_enter Tryd.func24, Tryd.ntmps24
    go_wp2_with fail
    (with_reducible refine (HML.out _).mono ?_); rintro e w1 ⟨rfl, rfl⟩
    clear HML HKE HCELL
    generalize w.alloc _ = w1 at *
    obtain ⟨⟨z0, z1, z2, z3, z4, z5, z6, z7, z8, z9⟩, ⟨u0, u1, u2, u3, u4, u5, u6, u7, u8, u9⟩⟩ := cv_readsZ HZ0.out
    have HZF := Lib.hid HZ0.out
    have HBF := Lib.hid HB0.out
    go_wp2_with fail
    have hq := cv_stored (.int .i64 0) (.string (T [])) (.int .i64 0) (.int .i64 0) (.int .i64 0) (.slice none 0 0) (.string (T [])) (.string (T [])) (.string (T [])) (.int .i64 0) HZF.out
    obtain ⟨⟨q0, q1, q2, q3, q4, q5, q6, q7, q8, q9⟩, _⟩ := cv_readsZ hq.1
    exact bodyPost_ret (v := .tuple #[.agg #[.int .i64 0, .string (T []), .int .i64 0, .int .i64 0, .int .i64 0, .slice none 0 0, .string (T []), .string (T []), .string (T []), .int .i64 0], .int .i64 (53)]) (by simp [results, Tryd.results24, go_sem, q0, q1, q2, q3, q4, q5, q6, q7, q8, q9]) rfl (by rw [HF.out]; exact ⟨none, 0, 0, rfl, atts_nil _, (fun q hq' => by cases hq'), grown_below HBF.out hq.2 (Nat.le_refl _)⟩)
  | true =>
    have HRS := Lib.hid (Au.rsettled_known (c := ⟨0, proto, role, 0, 0, l, nonce, [], [], 0⟩) hkn rfl)
    obtain ⟨L, hL, hL0⟩ : ∃ L, Au.rlen proto = L ∧ (L == 0) = false := ⟨_, rfl, by rw [Au.rlen_known hkn]; unfold Au.len; split <;> decide⟩
    rw [hL] at HML
    have HSE := Lib.hid (fun (a : Option Addr) (n k : Nat) (W : World) (h : Atts W (.slice a n k) l) => rsettled_any ⟨0, proto, role, 0, 0, l, nonce, [], [], 0⟩ a n k W h HFI.out)
    rw [HRS.out] at HSE
    rw [if_neg (by simp [hkn])] at hS
    have HSH := Lib.hid hS
    clear hS HRS hL
    have hro : (role = 1 ∨ role = 2) ∨ (¬ role = 1 ∧ ¬ role = 2) := by omega
    go_enter Tryd.func24, Tryd.ntmps24
    go_wp2_with fail
    (with_reducible refine (HML.out _).mono ?_); rintro e w1 ⟨rfl, rfl⟩
    go_upto_region 3 with fail
    generalize hW : w.alloc _ = w1 at *
    by_cases h1 : role = 1
    rotate_left
    · have e1 : (role != 1) = true := by simpa using h1
      by_cases h2 : role = 2
      rotate_left
      · have e2 : (role != 2) = true := by simpa using h2
        have HF := Lib.hid (show R = (Au.zero, 1) from by rw [HSH.out, if_pos (.inl ⟨h1, h2⟩)])
        clear h1 h2 hro hkn hW
        obtain ⟨⟨z0, z1, z2, z3, z4, z5, z6, z7, z8, z9⟩, ⟨u0, u1, u2, u3, u4, u5, u6, u7, u8, u9⟩⟩ := cv_readsZ HZ0.out
        have HZF := Lib.hid HZ0.out
        have HBF := Lib.hid HB0.out
        go_wp2_with fail
        have hq := cv_stored (.int .i64 0) (.string (T [])) (.int .i64 0) (.int .i64 0) (.int .i64 0) (.slice none 0 0) (.string (T [])) (.string (T [])) (.string (T [])) (.int .i64 0) HZF.out
        obtain ⟨⟨q0, q1, q2, q3, q4, q5, q6, q7, q8, q9⟩, _⟩ := cv_readsZ hq.1
        exact bodyPost_ret (v := .tuple #[.agg #[.int .i64 0, .string (T []), .int .i64 0, .int .i64 0, .int .i64 0, .slice none 0 0, .string (T []), .string (T []), .string (T []), .int .i64 0], .int .i64 (1)]) (by simp [results, Tryd.results24, go_sem, q0, q1, q2, q3, q4, q5, q6, q7, q8, q9]) rfl (by rw [HF.out]; exact ⟨none, 0, 0, rfl, atts_nil _, (fun q hq' => by cases hq'), grown_below HBF.out hq.2 (Nat.le_refl _)⟩)
      have e2 : (role != 2) = false := by simpa using h2
      by_cases h3 : nonce.length = 32
      rotate_left
      · have e3 : ((nonce.length : Int) != 32) = true := by rw [bne_iff_ne]; omega
        have HF := Lib.hid (show R = (Au.zero, 1) from by rw [HSH.out, if_pos (.inr h3)])
        clear h1 h2 h3 hro hkn hW
        obtain ⟨⟨z0, z1, z2, z3, z4, z5, z6, z7, z8, z9⟩, ⟨u0, u1, u2, u3, u4, u5, u6, u7, u8, u9⟩⟩ := cv_readsZ HZ0.out
        have HZF := Lib.hid HZ0.out
        have HBF := Lib.hid HB0.out
        go_wp2_with fail
        have hq := cv_stored (.int .i64 0) (.string (T [])) (.int .i64 0) (.int .i64 0) (.int .i64 0) (.slice none 0 0) (.string (T [])) (.string (T [])) (.string (T [])) (.int .i64 0) HZF.out
        obtain ⟨⟨q0, q1, q2, q3, q4, q5, q6, q7, q8, q9⟩, _⟩ := cv_readsZ hq.1
        exact bodyPost_ret (v := .tuple #[.agg #[.int .i64 0, .string (T []), .int .i64 0, .int .i64 0, .int .i64 0, .slice none 0 0, .string (T []), .string (T []), .string (T []), .int .i64 0], .int .i64 (1)]) (by simp [results, Tryd.results24, go_sem, q0, q1, q2, q3, q4, q5, q6, q7, q8, q9]) rfl (by rw [HF.out]; exact ⟨none, 0, 0, rfl, atts_nil _, (fun q hq' => by cases hq'), grown_below HBF.out hq.2 (Nat.le_refl _)⟩)
      have e3 : ((nonce.length : Int) != 32) = false := by rw [bne_eq_false_iff_eq]; omega
      have HS := Lib.hid (HSH.out.trans (if_neg (by omega)))
      clear hro h1 h2 h3 hkn hW
      generalize Au.keyE l = E at *
      go_wp2_with fail
      (with_reducible refine (HKE.out _ HB0.out).mono ?_); rintro e w3 ⟨rfl, b3⟩
      have HZ3 := Lib.hid ((b3.block _ (row_ltA HZ0.out)).trans HZ0.out)
      have HB3 := Lib.hid (bnext HB0.out b3)
      clear b3
      by_cases h4 : E = 0
      rotate_left
      · have e4 : (E != 0) = true := by simpa using h4
        have HF := Lib.hid (show R = (Au.zero, E) from by rw [HS.out, if_pos h4])
        clear h4
        obtain ⟨⟨z0, z1, z2, z3, z4, z5, z6, z7, z8, z9⟩, ⟨u0, u1, u2, u3, u4, u5, u6, u7, u8, u9⟩⟩ := cv_readsZ HZ3.out
        have HZF := Lib.hid HZ3.out
        have HBF := Lib.hid HB3.out
        go_wp2_with fail
        have hq := cv_stored (.int .i64 0) (.string (T [])) (.int .i64 0) (.int .i64 0) (.int .i64 0) (.slice none 0 0) (.string (T [])) (.string (T [])) (.string (T [])) (.int .i64 0) HZF.out
        obtain ⟨⟨q0, q1, q2, q3, q4, q5, q6, q7, q8, q9⟩, _⟩ := cv_readsZ hq.1
        exact bodyPost_ret (v := .tuple #[.agg #[.int .i64 0, .string (T []), .int .i64 0, .int .i64 0, .int .i64 0, .slice none 0 0, .string (T []), .string (T []), .string (T []), .int .i64 0], .int .i64 (E)]) (by simp [results, Tryd.results24, go_sem, q0, q1, q2, q3, q4, q5, q6, q7, q8, q9]) rfl (by rw [HF.out]; exact ⟨none, 0, 0, rfl, atts_nil _, (fun q hq' => by cases hq'), grown_below HBF.out hq.2 (Nat.le_refl _)⟩)
      subst h4
      have HF := Lib.hid (show R = (Au.settled ⟨0, proto, role, 0, 0, l, nonce, [], [], 0⟩, 0) from by rw [HS.out]; simp)
      go_wp2_with (at_builtin; refine wpList_append_any _ rfl _ _ 25 rfl w3.heap.size 53 i0 (.agg #[.string ByteArray.empty, .string ByteArray.empty, .bool false]) 3 40 Tryd.underlying25 hi hz0 hz1 hz2 rfl (by decide) (.slice (some ⟨w3.heap.size, 0, none⟩) 0 0) 0 [] rfl ?k1c0 ao l.length cp (afl l) rfl ?k1c1 ?k1c2 ?k1c3 ?k1c4 ?k1c5 ?k1c6 ?k1c7 ?_)
      case k1c0 => exact ⟨rfl, .inr ⟨w3.heap.size, 0, #[], rfl, Nat.le_refl _, heap_alloc_new w3 _, Nat.le_refl _, by unfold maxLen; omega, rfl, rfl⟩⟩
      case k1c1 => exact HNIL.out
      case k1c2 => exact afl_length l
      case k1c3 =>
        intro ad had j u hu
        obtain ⟨k1, k2⟩ := HCELL.out w3 HB3.out ad had j u hu
        rw [((Below.refl w3.heap.size w3).alloc (Nat.le_refl _) _).cell (p := ad.add j) k2]
        exact k1
      case k1c4 => exact afl_one l
      case k1c5 => unfold maxLen; have := HLL.out; omega
      case k1c6 => have := HLL.out; omega
      case k1c7 => simp
      intro v' w6 hown hgrow hblk
      have hat : Atts w6 v' l := atts_own (base := w3.heap.size) (by simpa using hown)
      obtain ⟨a, n, k, rfl⟩ := hat.form
      have HA6 := Lib.hid hat
      have hb6 : Below w3.heap.size w3 w6 := ((Below.refl w3.heap.size w3).alloc (Nat.le_refl _) _).grown hgrow (by simp) (fun k hk => by cases hk; exact Nat.le_refl _)
      have HZ6 := Lib.hid ((hb6.block _ (row_ltA HZ3.out)).trans HZ3.out)
      have HB6 := Lib.hid (bnext HB3.out hb6)
      have HQ := Lib.hid (show ∀ q, a = some q → q.block ≠ w.heap.size from fun q hq => by
        subst hq
        have hlz := row_ltA HZ3.out
        rcases hown.2 with ⟨e, _⟩ | ⟨g', cap', cur, e, hb', _⟩
        · cases e
        · cases e; simp only; omega)
      have HNB := Lib.hid (show ∀ q, a = some q → w.heap.size ≤ q.block from fun q hq => by
        subst hq
        have hlz := row_ltA HZ3.out
        rcases hown.2 with ⟨e, _⟩ | ⟨g', cap', cur, e, hb', _⟩
        · cases e
        · cases e; simp only; omega)
      clear hown hgrow hblk hat hb6
      go_wp2_with fail
      (with_reducible refine (HSE.out a n k _ HA6.out).mono ?_); rintro e w7 ⟨rfl, b7⟩
      have hz7 := (b7.block _ (row_ltA HZ6.out)).trans HZ6.out
      have HZ7 := Lib.hid hz7
      obtain ⟨⟨z0, z1, z2, z3, z4, z5, z6, z7, z8, z9⟩, ⟨u0, u1, u2, u3, u4, u5, u6, u7, u8, u9⟩⟩ := cv_readsZ hz7
      have HA7 := Lib.hid (HA6.out.below b7)
      have HB7 := Lib.hid (bnext HB6.out b7)
      clear b7 hz7
      go_wp2_with fail
      have hq := cv_stored (.int .i64 (Au.settled ⟨0, proto, role, 0, 0, l, nonce, [], [], 0⟩).id) (.string (T (Au.settled ⟨0, proto, role, 0, 0, l, nonce, [], [], 0⟩).proto)) (.int .i64 (Au.settled ⟨0, proto, role, 0, 0, l, nonce, [], [], 0⟩).role) (.int .i64 (Au.settled ⟨0, proto, role, 0, 0, l, nonce, [], [], 0⟩).phase) (.int .i64 (Au.settled ⟨0, proto, role, 0, 0, l, nonce, [], [], 0⟩).step) ((.slice a n k)) (.string (T (Au.settled ⟨0, proto, role, 0, 0, l, nonce, [], [], 0⟩).own)) (.string (T (Au.settled ⟨0, proto, role, 0, 0, l, nonce, [], [], 0⟩).peer)) (.string (T (Au.settled ⟨0, proto, role, 0, 0, l, nonce, [], [], 0⟩).user)) (.int .i64 (Au.settled ⟨0, proto, role, 0, 0, l, nonce, [], [], 0⟩).err) HZ7.out
      obtain ⟨⟨q0, q1, q2, q3, q4, q5, q6, q7, q8, q9⟩, _⟩ := cv_readsZ hq.1
      exact bodyPost_ret (v := .tuple #[.agg #[.int .i64 (Au.settled ⟨0, proto, role, 0, 0, l, nonce, [], [], 0⟩).id, .string (T (Au.settled ⟨0, proto, role, 0, 0, l, nonce, [], [], 0⟩).proto), .int .i64 (Au.settled ⟨0, proto, role, 0, 0, l, nonce, [], [], 0⟩).role, .int .i64 (Au.settled ⟨0, proto, role, 0, 0, l, nonce, [], [], 0⟩).phase, .int .i64 (Au.settled ⟨0, proto, role, 0, 0, l, nonce, [], [], 0⟩).step, (.slice a n k), .string (T (Au.settled ⟨0, proto, role, 0, 0, l, nonce, [], [], 0⟩).own), .string (T (Au.settled ⟨0, proto, role, 0, 0, l, nonce, [], [], 0⟩).peer), .string (T (Au.settled ⟨0, proto, role, 0, 0, l, nonce, [], [], 0⟩).user), .int .i64 (Au.settled ⟨0, proto, role, 0, 0, l, nonce, [], [], 0⟩).err], .int .i64 0]) (by simp [results, Tryd.results24, go_sem, q0, q1, q2, q3, q4, q5, q6, q7, q8, q9]) rfl (by rw [HF.out]; exact ⟨a, n, k, rfl, HA7.out.grown hq.2 (fun q hq' => HQ.out q hq'), HNB.out, grown_below HB7.out hq.2 (Nat.le_refl _)⟩)
    have e1 : (role != 1) = false := by simpa using h1
    by_cases h3 : nonce.length = 32
    rotate_left
    · have e3 : ((nonce.length : Int) != 32) = true := by rw [bne_iff_ne]; omega
      have HF := Lib.hid (show R = (Au.zero, 1) from by rw [HSH.out, if_pos (.inr h3)])
      clear h1  h3 hro hkn hW
      obtain ⟨⟨z0, z1, z2, z3, z4, z5, z6, z7, z8, z9⟩, ⟨u0, u1, u2, u3, u4, u5, u6, u7, u8, u9⟩⟩ := cv_readsZ HZ0.out
      have HZF := Lib.hid HZ0.out
      have HBF := Lib.hid HB0.out
      go_wp2_with fail
      have hq := cv_stored (.int .i64 0) (.string (T [])) (.int .i64 0) (.int .i64 0) (.int .i64 0) (.slice none 0 0) (.string (T [])) (.string (T [])) (.string (T [])) (.int .i64 0) HZF.out
      obtain ⟨⟨q0, q1, q2, q3, q4, q5, q6, q7, q8, q9⟩, _⟩ := cv_readsZ hq.1
      exact bodyPost_ret (v := .tuple #[.agg #[.int .i64 0, .string (T []), .int .i64 0, .int .i64 0, .int .i64 0, .slice none 0 0, .string (T []), .string (T []), .string (T []), .int .i64 0], .int .i64 (1)]) (by simp [results, Tryd.results24, go_sem, q0, q1, q2, q3, q4, q5, q6, q7, q8, q9]) rfl (by rw [HF.out]; exact ⟨none, 0, 0, rfl, atts_nil _, (fun q hq' => by cases hq'), grown_below HBF.out hq.2 (Nat.le_refl _)⟩)
    have e3 : ((nonce.length : Int) != 32) = false := by rw [bne_eq_false_iff_eq]; omega
    have HS := Lib.hid (HSH.out.trans (if_neg (by omega)))
    clear hro h1  h3 hkn hW
    generalize Au.keyE l = E at *
    go_wp2_with fail
    (with_reducible refine (HKE.out _ HB0.out).mono ?_); rintro e w3 ⟨rfl, b3⟩
    have HZ3 := Lib.hid ((b3.block _ (row_ltA HZ0.out)).trans HZ0.out)
    have HB3 := Lib.hid (bnext HB0.out b3)
    clear b3
    by_cases h4 : E = 0
    rotate_left
    · have e4 : (E != 0) = true := by simpa using h4
      have HF := Lib.hid (show R = (Au.zero, E) from by rw [HS.out, if_pos h4])
      clear h4
      obtain ⟨⟨z0, z1, z2, z3, z4, z5, z6, z7, z8, z9⟩, ⟨u0, u1, u2, u3, u4, u5, u6, u7, u8, u9⟩⟩ := cv_readsZ HZ3.out
      have HZF := Lib.hid HZ3.out
      have HBF := Lib.hid HB3.out
      go_wp2_with fail
      have hq := cv_stored (.int .i64 0) (.string (T [])) (.int .i64 0) (.int .i64 0) (.int .i64 0) (.slice none 0 0) (.string (T [])) (.string (T [])) (.string (T [])) (.int .i64 0) HZF.out
      obtain ⟨⟨q0, q1, q2, q3, q4, q5, q6, q7, q8, q9⟩, _⟩ := cv_readsZ hq.1
      exact bodyPost_ret (v := .tuple #[.agg #[.int .i64 0, .string (T []), .int .i64 0, .int .i64 0, .int .i64 0, .slice none 0 0, .string (T []), .string (T []), .string (T []), .int .i64 0], .int .i64 (E)]) (by simp [results, Tryd.results24, go_sem, q0, q1, q2, q3, q4, q5, q6, q7, q8, q9]) rfl (by rw [HF.out]; exact ⟨none, 0, 0, rfl, atts_nil _, (fun q hq' => by cases hq'), grown_below HBF.out hq.2 (Nat.le_refl _)⟩)
    subst h4
    have HF := Lib.hid (show R = (Au.settled ⟨0, proto, role, 0, 0, l, nonce, [], [], 0⟩, 0) from by rw [HS.out]; simp)
    go_wp2_with (at_builtin; refine wpList_append_any _ rfl _ _ 25 rfl w3.heap.size 53 i0 (.agg #[.string ByteArray.empty, .string ByteArray.empty, .bool false]) 3 40 Tryd.underlying25 hi hz0 hz1 hz2 rfl (by decide) (.slice (some ⟨w3.heap.size, 0, none⟩) 0 0) 0 [] rfl ?k2c0 ao l.length cp (afl l) rfl ?k2c1 ?k2c2 ?k2c3 ?k2c4 ?k2c5 ?k2c6 ?k2c7 ?_)
    case k2c0 => exact ⟨rfl, .inr ⟨w3.heap.size, 0, #[], rfl, Nat.le_refl _, heap_alloc_new w3 _, Nat.le_refl _, by unfold maxLen; omega, rfl, rfl⟩⟩
    case k2c1 => exact HNIL.out
    case k2c2 => exact afl_length l
    case k2c3 =>
      intro ad had j u hu
      obtain ⟨k1, k2⟩ := HCELL.out w3 HB3.out ad had j u hu
      rw [((Below.refl w3.heap.size w3).alloc (Nat.le_refl _) _).cell (p := ad.add j) k2]
      exact k1
    case k2c4 => exact afl_one l
    case k2c5 => unfold maxLen; have := HLL.out; omega
    case k2c6 => have := HLL.out; omega
    case k2c7 => simp
    intro v' w6 hown hgrow hblk
    have hat : Atts w6 v' l := atts_own (base := w3.heap.size) (by simpa using hown)
    obtain ⟨a, n, k, rfl⟩ := hat.form
    have HA6 := Lib.hid hat
    have hb6 : Below w3.heap.size w3 w6 := ((Below.refl w3.heap.size w3).alloc (Nat.le_refl _) _).grown hgrow (by simp) (fun k hk => by cases hk; exact Nat.le_refl _)
    have HZ6 := Lib.hid ((hb6.block _ (row_ltA HZ3.out)).trans HZ3.out)
    have HB6 := Lib.hid (bnext HB3.out hb6)
    have HQ := Lib.hid (show ∀ q, a = some q → q.block ≠ w.heap.size from fun q hq => by
      subst hq
      have hlz := row_ltA HZ3.out
      rcases hown.2 with ⟨e, _⟩ | ⟨g', cap', cur, e, hb', _⟩
      · cases e
      · cases e; simp only; omega)
    have HNB := Lib.hid (show ∀ q, a = some q → w.heap.size ≤ q.block from fun q hq => by
      subst hq
      have hlz := row_ltA HZ3.out
      rcases hown.2 with ⟨e, _⟩ | ⟨g', cap', cur, e, hb', _⟩
      · cases e
      · cases e; simp only; omega)
    clear hown hgrow hblk hat hb6
    go_wp2_with fail
    (with_reducible refine (HSE.out a n k _ HA6.out).mono ?_); rintro e w7 ⟨rfl, b7⟩
    have hz7 := (b7.block _ (row_ltA HZ6.out)).trans HZ6.out
    have HZ7 := Lib.hid hz7
    obtain ⟨⟨z0, z1, z2, z3, z4, z5, z6, z7, z8, z9⟩, ⟨u0, u1, u2, u3, u4, u5, u6, u7, u8, u9⟩⟩ := cv_readsZ hz7
    have HA7 := Lib.hid (HA6.out.below b7)
    have HB7 := Lib.hid (bnext HB6.out b7)
    clear b7 hz7
    go_wp2_with fail
    have hq := cv_stored (.int .i64 (Au.settled ⟨0, proto, role, 0, 0, l, nonce, [], [], 0⟩).id) (.string (T (Au.settled ⟨0, proto, role, 0, 0, l, nonce, [], [], 0⟩).proto)) (.int .i64 (Au.settled ⟨0, proto, role, 0, 0, l, nonce, [], [], 0⟩).role) (.int .i64 (Au.settled ⟨0, proto, role, 0, 0, l, nonce, [], [], 0⟩).phase) (.int .i64 (Au.settled ⟨0, proto, role, 0, 0, l, nonce, [], [], 0⟩).step) ((.slice a n k)) (.string (T (Au.settled ⟨0, proto, role, 0, 0, l, nonce, [], [], 0⟩).own)) (.string (T (Au.settled ⟨0, proto, role, 0, 0, l, nonce, [], [], 0⟩).peer)) (.string (T (Au.settled ⟨0, proto, role, 0, 0, l, nonce, [], [], 0⟩).user)) (.int .i64 (Au.settled ⟨0, proto, role, 0, 0, l, nonce, [], [], 0⟩).err) HZ7.out
    obtain ⟨⟨q0, q1, q2, q3, q4, q5, q6, q7, q8, q9⟩, _⟩ := cv_readsZ hq.1
    exact bodyPost_ret (v := .tuple #[.agg #[.int .i64 (Au.settled ⟨0, proto, role, 0, 0, l, nonce, [], [], 0⟩).id, .string (T (Au.settled ⟨0, proto, role, 0, 0, l, nonce, [], [], 0⟩).proto), .int .i64 (Au.settled ⟨0, proto, role, 0, 0, l, nonce, [], [], 0⟩).role, .int .i64 (Au.settled ⟨0, proto, role, 0, 0, l, nonce, [], [], 0⟩).phase, .int .i64 (Au.settled ⟨0, proto, role, 0, 0, l, nonce, [], [], 0⟩).step, (.slice a n k), .string (T (Au.settled ⟨0, proto, role, 0, 0, l, nonce, [], [], 0⟩).own), .string (T (Au.settled ⟨0, proto, role, 0, 0, l, nonce, [], [], 0⟩).peer), .string (T (Au.settled ⟨0, proto, role, 0, 0, l, nonce, [], [], 0⟩).user), .int .i64 (Au.settled ⟨0, proto, role, 0, 0, l, nonce, [], [], 0⟩).err], .int .i64 0]) (by simp [results, Tryd.results24, go_sem, q0, q1, q2, q3, q4, q5, q6, q7, q8, q9]) rfl (by rw [HF.out]; exact ⟨a, n, k, rfl, HA7.out.grown hq.2 (fun q hq' => HQ.out q hq'), HNB.out, grown_below HB7.out hq.2 (Nat.le_refl _)⟩)
end Go.Proofs.YtjjdaelddicokaaDoor
