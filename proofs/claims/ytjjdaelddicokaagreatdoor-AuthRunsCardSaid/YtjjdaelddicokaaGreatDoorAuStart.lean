/- What auth.Start and the reference's Start return: Au.start. Conditions: keys of at most 1000 attributes with texts of at most 1000, a nonce of at most 1000. -/
import Derived.Test.YtjjdaelddicokaaGreatDoorAuRef3
import Derived.Test.YtjjdaelddicokaaGreatDoorAuWriteA
set_option linter.unusedVariables false
set_option linter.unusedSimpArgs false
namespace Go.Proofs.YtjjdaelddicokaaGreatDoor
open Go.RowKit
open Au (Att Cnv)
namespace Au
theorem has_of {n : List UInt8} {l : List Att} (h : 1 ≤ (find n l).length) : has n l = true := by
  by_cases hi : idx n l < 0
  · rw [(find_none hi).2] at h; simp at h
  · exact decide_eq_true (by omega)
theorem isKey_eq (l : List Att) : (has sUser l && has sSecret l && keyOk l) = keyOk l := by
  cases h : keyOk l with
  | false => rw [Bool.and_false]
  | true =>
    have h' := h
    unfold keyOk at h'
    simp only [Bool.and_eq_true, decide_eq_true_eq] at h'
    obtain ⟨⟨⟨h1, _⟩, h2⟩, _⟩ := h'
    rw [has_of (n := sUser) h1, has_of (n := sSecret) h2]; rfl
end Au
set_option maxRecDepth 20000 in
set_option maxHeartbeats 8000000 in
theorem start_any (proto : List UInt8) (role : Int) (kv : Value) (l : List Att) (nonce : List UInt8) (w : World) (hk : Atts w kv l) (hl : l.length ≤ 1000) (hfl : ∀ j (h : j < l.length), l[j].name.length ≤ 1000 ∧ l[j].value.length ≤ 1000) (hn : nonce.length ≤ 1000) :
    Calls Tryz.prog 24 #[.string (T proto), .int .i64 role, kv, .string (T nonce)] w (WrSays w (Au.start proto role l nonce) (Au.start proto role l nonce).1.key) := by
  obtain ⟨ao, m, cp, rfl⟩ := hk.form
  have HZ0 := Lib.hid (heap_alloc_new w (.cells #[.int .i64 0, .string (T []), .int .i64 0, .int .i64 0, .int .i64 0, .slice none 0 0, .string (T []), .string (T []), .string (T []), .int .i64 0] 25))
  have HB0 := Lib.hid ((Below.refl w.heap.size w).alloc (Nat.le_refl _) (.cells #[.int .i64 0, .string (T []), .int .i64 0, .int .i64 0, .int .i64 0, .slice none 0 0, .string (T []), .string (T []), .string (T []), .int .i64 0] 25))
  have HPR := Lib.hid (fun (W : World) => protos_any W)
  have HCO := Lib.hid (fun (b : Nat) (W : World) (h : Strs W (.slice (some ⟨b, 0, none⟩) 3 3) prs) => show Calls Tryz.prog 31 #[.slice (some ⟨b, 0, none⟩) 3 3, .string (T proto)] W fun e w' => e = .returned (.bool (Au.known proto)) ∧ W = w' from by
    have := scontains_any _ prs (T proto) W h (by decide)
    rw [prs_has] at this
    exact this)
  have HCK := Lib.hid (fun (W : World) (hb : Below w.heap.size w W) => achk_any (.slice ao m cp) l W (hk.below hb) (by omega) (fun j hj => ⟨by have := (hfl j hj).1; omega, by have := (hfl j hj).2; omega⟩))
  have HIK := Lib.hid (fun (W : World) (hb : Below w.heap.size w W) => show Calls Tryz.prog 34 #[.slice ao m cp] W fun e w' => e = .returned (.bool (Au.keyOk l)) ∧ Below W.heap.size W w' from by
    have := iskey_any (.slice ao m cp) l W (hk.below hb) (by omega)
    rw [Au.isKey_eq] at this
    exact this)
  have HSE := Lib.hid (fun (W : World) (hb : Below w.heap.size w W) => settled_any ⟨0, proto, role, 0, 0, l, nonce, [], [], 0⟩ ao m cp W (hk.below hb) ⟨hl, hfl, hn, by simp⟩)
  obtain ⟨R, hR⟩ : ∃ R, Au.start proto role l nonce = R := ⟨_, rfl⟩
  have hS : R = if Au.known proto = false then (Au.zero, 53) else if (role ≠ 1 ∧ role ≠ 2) ∨ nonce.length ≠ 32 then (Au.zero, 1) else if Au.keyE l ≠ 0 then (Au.zero, Au.keyE l) else (Au.settled ⟨0, proto, role, 0, 0, l, nonce, [], [], 0⟩, 0) := by rw [← hR]; rfl
  rw [hR]
  clear hR hk hfl hl hn
  cases hkn : Au.known proto with
  | false =>
    have HF := Lib.hid (show R = (Au.zero, 53) from by rw [hS, if_pos hkn])
    rw [hkn] at HCO
    clear hS hkn
    go_enter Tryz.func24, Tryz.ntmps24
    go_wp2_with fail
    (with_reducible refine (HPR.out _).mono ?_); rintro e w1 ⟨b, rfl, hst, b1⟩
    have hst' := Lib.hid hst
    have HZ1 := Lib.hid ((b1.block _ (row_ltA HZ0.out)).trans HZ0.out)
    have HB1 := Lib.hid (bnext HB0.out b1)
    clear hst b1
    go_wp2_with fail
    (with_reducible refine (HCO.out _ _ hst'.out).mono ?_); rintro e w2 ⟨rfl, rfl⟩
    obtain ⟨⟨z0, z1, z2, z3, z4, z5, z6, z7, z8, z9⟩, ⟨u0, u1, u2, u3, u4, u5, u6, u7, u8, u9⟩⟩ := cv_readsZ HZ1.out
    have HZF := Lib.hid HZ1.out
    have HBF := Lib.hid HB1.out
    go_wp2_with fail
    have hq := cv_stored (.int .i64 0) (.string (T [])) (.int .i64 0) (.int .i64 0) (.int .i64 0) (.slice none 0 0) (.string (T [])) (.string (T [])) (.string (T [])) (.int .i64 0) HZF.out
    obtain ⟨⟨q0, q1, q2, q3, q4, q5, q6, q7, q8, q9⟩, _⟩ := cv_readsZ hq.1
    exact bodyPost_ret (v := .tuple #[.agg #[.int .i64 0, .string (T []), .int .i64 0, .int .i64 0, .int .i64 0, .slice none 0 0, .string (T []), .string (T []), .string (T []), .int .i64 0], .int .i64 (53)]) (by simp [results, Tryz.results24, go_sem, q0, q1, q2, q3, q4, q5, q6, q7, q8, q9]) rfl (by rw [HF.out]; exact ⟨none, 0, 0, rfl, atts_nil _, (fun q hq' => by cases hq'), grown_below HBF.out hq.2 (Nat.le_refl _)⟩)
  | true =>
    rw [hkn] at HCO
    rw [if_neg (by simp [hkn])] at hS
    have HSH := Lib.hid hS
    clear hS
    have hro : (role = 1 ∨ role = 2) ∨ (¬ role = 1 ∧ ¬ role = 2) := by omega
    go_enter Tryz.func24, Tryz.ntmps24
    go_wp2_with fail
    (with_reducible refine (HPR.out _).mono ?_); rintro e w1 ⟨b, rfl, hst, b1⟩
    have hst' := Lib.hid hst
    have HZ1 := Lib.hid ((b1.block _ (row_ltA HZ0.out)).trans HZ0.out)
    have HB1 := Lib.hid (bnext HB0.out b1)
    clear hst b1
    go_wp2_with fail
    (with_reducible refine (HCO.out _ _ hst'.out).mono ?_); rintro e w2 ⟨rfl, rfl⟩
    clear HPR HCO hst'
    go_upto_region 3 with fail
    have key : (∃ b : Bool, b = true ∧ ((role ≠ 1 ∧ role ≠ 2) ∨ nonce.length ≠ 32)) ∨ ¬ ((role ≠ 1 ∧ role ≠ 2) ∨ nonce.length ≠ 32) := by
      by_cases h : (role ≠ 1 ∧ role ≠ 2) ∨ nonce.length ≠ 32
      · exact .inl ⟨true, rfl, h⟩
      · exact .inr h
    clear key
    by_cases h1 : role = 1
    rotate_left
    · have e1 : (role != 1) = true := by simpa using h1
      by_cases h2 : role = 2
      rotate_left
      · have e2 : (role != 2) = true := by simpa using h2
        have HF := Lib.hid (show R = (Au.zero, 1) from by rw [HSH.out, if_pos (.inl ⟨h1, h2⟩)])
        clear h1 h2 hro hkn
        obtain ⟨⟨z0, z1, z2, z3, z4, z5, z6, z7, z8, z9⟩, ⟨u0, u1, u2, u3, u4, u5, u6, u7, u8, u9⟩⟩ := cv_readsZ HZ1.out
        have HZF := Lib.hid HZ1.out
        have HBF := Lib.hid HB1.out
        go_wp2_with fail
        have hq := cv_stored (.int .i64 0) (.string (T [])) (.int .i64 0) (.int .i64 0) (.int .i64 0) (.slice none 0 0) (.string (T [])) (.string (T [])) (.string (T [])) (.int .i64 0) HZF.out
        obtain ⟨⟨q0, q1, q2, q3, q4, q5, q6, q7, q8, q9⟩, _⟩ := cv_readsZ hq.1
        exact bodyPost_ret (v := .tuple #[.agg #[.int .i64 0, .string (T []), .int .i64 0, .int .i64 0, .int .i64 0, .slice none 0 0, .string (T []), .string (T []), .string (T []), .int .i64 0], .int .i64 (1)]) (by simp [results, Tryz.results24, go_sem, q0, q1, q2, q3, q4, q5, q6, q7, q8, q9]) rfl (by rw [HF.out]; exact ⟨none, 0, 0, rfl, atts_nil _, (fun q hq' => by cases hq'), grown_below HBF.out hq.2 (Nat.le_refl _)⟩)
      have e2 : (role != 2) = false := by simpa using h2
      by_cases h3 : nonce.length = 32
      rotate_left
      · have e3 : ((nonce.length : Int) != 32) = true := by rw [bne_iff_ne]; omega
        have HF := Lib.hid (show R = (Au.zero, 1) from by rw [HSH.out, if_pos (.inr h3)])
        clear h1 h2 h3 hro hkn
        obtain ⟨⟨z0, z1, z2, z3, z4, z5, z6, z7, z8, z9⟩, ⟨u0, u1, u2, u3, u4, u5, u6, u7, u8, u9⟩⟩ := cv_readsZ HZ1.out
        have HZF := Lib.hid HZ1.out
        have HBF := Lib.hid HB1.out
        go_wp2_with fail
        have hq := cv_stored (.int .i64 0) (.string (T [])) (.int .i64 0) (.int .i64 0) (.int .i64 0) (.slice none 0 0) (.string (T [])) (.string (T [])) (.string (T [])) (.int .i64 0) HZF.out
        obtain ⟨⟨q0, q1, q2, q3, q4, q5, q6, q7, q8, q9⟩, _⟩ := cv_readsZ hq.1
        exact bodyPost_ret (v := .tuple #[.agg #[.int .i64 0, .string (T []), .int .i64 0, .int .i64 0, .int .i64 0, .slice none 0 0, .string (T []), .string (T []), .string (T []), .int .i64 0], .int .i64 (1)]) (by simp [results, Tryz.results24, go_sem, q0, q1, q2, q3, q4, q5, q6, q7, q8, q9]) rfl (by rw [HF.out]; exact ⟨none, 0, 0, rfl, atts_nil _, (fun q hq' => by cases hq'), grown_below HBF.out hq.2 (Nat.le_refl _)⟩)
      have e3 : ((nonce.length : Int) != 32) = false := by rw [bne_eq_false_iff_eq]; omega
      have HS := Lib.hid (HSH.out.trans (if_neg (by omega)))
      clear hro h1 h2 h3 hkn
      have HKE := Lib.hid (show Au.keyE l = if Au.check l = 0 then (if Au.keyOk l = true then 0 else 52) else Au.check l from rfl)
      generalize Au.check l = E at *
      generalize Au.keyOk l = kb at *
      go_wp2_with fail
      (with_reducible refine (HCK.out _ HB1.out).mono ?_); rintro e w3 ⟨rfl, b3⟩
      have HZ3 := Lib.hid ((b3.block _ (row_ltA HZ1.out)).trans HZ1.out)
      have HB3 := Lib.hid (bnext HB1.out b3)
      clear b3
      by_cases h4 : E = 0
      rotate_left
      · have e4 : (E != 0) = true := by simpa using h4
        have HF := Lib.hid (show R = (Au.zero, E) from by rw [HS.out, HKE.out, if_neg h4, if_pos h4])
        clear h4
        obtain ⟨⟨z0, z1, z2, z3, z4, z5, z6, z7, z8, z9⟩, ⟨u0, u1, u2, u3, u4, u5, u6, u7, u8, u9⟩⟩ := cv_readsZ HZ3.out
        have HZF := Lib.hid HZ3.out
        have HBF := Lib.hid HB3.out
        go_wp2_with fail
        have hq := cv_stored (.int .i64 0) (.string (T [])) (.int .i64 0) (.int .i64 0) (.int .i64 0) (.slice none 0 0) (.string (T [])) (.string (T [])) (.string (T [])) (.int .i64 0) HZF.out
        obtain ⟨⟨q0, q1, q2, q3, q4, q5, q6, q7, q8, q9⟩, _⟩ := cv_readsZ hq.1
        exact bodyPost_ret (v := .tuple #[.agg #[.int .i64 0, .string (T []), .int .i64 0, .int .i64 0, .int .i64 0, .slice none 0 0, .string (T []), .string (T []), .string (T []), .int .i64 0], .int .i64 (E)]) (by simp [results, Tryz.results24, go_sem, q0, q1, q2, q3, q4, q5, q6, q7, q8, q9]) rfl (by rw [HF.out]; exact ⟨none, 0, 0, rfl, atts_nil _, (fun q hq' => by cases hq'), grown_below HBF.out hq.2 (Nat.le_refl _)⟩)
      subst h4
      go_wp2_with fail
      (with_reducible refine (HIK.out _ HB3.out).mono ?_); rintro e w4 ⟨rfl, b4⟩
      have HZ4 := Lib.hid ((b4.block _ (row_ltA HZ3.out)).trans HZ3.out)
      have HB4 := Lib.hid (bnext HB3.out b4)
      clear b4
      cases kb with
      | false =>
        have HF := Lib.hid (show R = (Au.zero, 52) from by rw [HS.out, HKE.out]; simp)
        obtain ⟨⟨z0, z1, z2, z3, z4, z5, z6, z7, z8, z9⟩, ⟨u0, u1, u2, u3, u4, u5, u6, u7, u8, u9⟩⟩ := cv_readsZ HZ4.out
        have HZF := Lib.hid HZ4.out
        have HBF := Lib.hid HB4.out
        go_wp2_with fail
        have hq := cv_stored (.int .i64 0) (.string (T [])) (.int .i64 0) (.int .i64 0) (.int .i64 0) (.slice none 0 0) (.string (T [])) (.string (T [])) (.string (T [])) (.int .i64 0) HZF.out
        obtain ⟨⟨q0, q1, q2, q3, q4, q5, q6, q7, q8, q9⟩, _⟩ := cv_readsZ hq.1
        exact bodyPost_ret (v := .tuple #[.agg #[.int .i64 0, .string (T []), .int .i64 0, .int .i64 0, .int .i64 0, .slice none 0 0, .string (T []), .string (T []), .string (T []), .int .i64 0], .int .i64 (52)]) (by simp [results, Tryz.results24, go_sem, q0, q1, q2, q3, q4, q5, q6, q7, q8, q9]) rfl (by rw [HF.out]; exact ⟨none, 0, 0, rfl, atts_nil _, (fun q hq' => by cases hq'), grown_below HBF.out hq.2 (Nat.le_refl _)⟩)
      | true =>
        have HF := Lib.hid (show R = (Au.settled ⟨0, proto, role, 0, 0, l, nonce, [], [], 0⟩, 0) from by rw [HS.out, HKE.out]; simp)
        go_wp2_with fail
        (with_reducible refine (HSE.out _ HB4.out).mono ?_); rintro e w5 ⟨a, n, k, rfl, hat, hab, b5⟩
        have hz5 := (b5.block _ (row_ltA HZ4.out)).trans HZ4.out
        have HZ5 := Lib.hid hz5
        obtain ⟨⟨z0, z1, z2, z3, z4, z5, z6, z7, z8, z9⟩, ⟨u0, u1, u2, u3, u4, u5, u6, u7, u8, u9⟩⟩ := cv_readsZ hz5
        have HA5 := Lib.hid hat
        have HB5 := Lib.hid (bnext HB4.out b5)
        have HQ := Lib.hid (show ∀ q, a = some q → q.block ≠ w.heap.size from fun q hq => by have := hab q hq; have := row_ltA HZ4.out; omega)
        have HNB := Lib.hid (show ∀ q, a = some q → w.heap.size ≤ q.block from fun q hq => by have := hab q hq; have := row_ltA HZ4.out; omega)
        clear hat hab b5 hz5
        go_wp2_with fail
        have hq := cv_stored (.int .i64 (Au.settled ⟨0, proto, role, 0, 0, l, nonce, [], [], 0⟩).id) (.string (T (Au.settled ⟨0, proto, role, 0, 0, l, nonce, [], [], 0⟩).proto)) (.int .i64 (Au.settled ⟨0, proto, role, 0, 0, l, nonce, [], [], 0⟩).role) (.int .i64 (Au.settled ⟨0, proto, role, 0, 0, l, nonce, [], [], 0⟩).phase) (.int .i64 (Au.settled ⟨0, proto, role, 0, 0, l, nonce, [], [], 0⟩).step) ((.slice a n k)) (.string (T (Au.settled ⟨0, proto, role, 0, 0, l, nonce, [], [], 0⟩).own)) (.string (T (Au.settled ⟨0, proto, role, 0, 0, l, nonce, [], [], 0⟩).peer)) (.string (T (Au.settled ⟨0, proto, role, 0, 0, l, nonce, [], [], 0⟩).user)) (.int .i64 (Au.settled ⟨0, proto, role, 0, 0, l, nonce, [], [], 0⟩).err) HZ5.out
        obtain ⟨⟨q0, q1, q2, q3, q4, q5, q6, q7, q8, q9⟩, _⟩ := cv_readsZ hq.1
        exact bodyPost_ret (v := .tuple #[.agg #[.int .i64 (Au.settled ⟨0, proto, role, 0, 0, l, nonce, [], [], 0⟩).id, .string (T (Au.settled ⟨0, proto, role, 0, 0, l, nonce, [], [], 0⟩).proto), .int .i64 (Au.settled ⟨0, proto, role, 0, 0, l, nonce, [], [], 0⟩).role, .int .i64 (Au.settled ⟨0, proto, role, 0, 0, l, nonce, [], [], 0⟩).phase, .int .i64 (Au.settled ⟨0, proto, role, 0, 0, l, nonce, [], [], 0⟩).step, (.slice a n k), .string (T (Au.settled ⟨0, proto, role, 0, 0, l, nonce, [], [], 0⟩).own), .string (T (Au.settled ⟨0, proto, role, 0, 0, l, nonce, [], [], 0⟩).peer), .string (T (Au.settled ⟨0, proto, role, 0, 0, l, nonce, [], [], 0⟩).user), .int .i64 (Au.settled ⟨0, proto, role, 0, 0, l, nonce, [], [], 0⟩).err], .int .i64 0]) (by simp [results, Tryz.results24, go_sem, q0, q1, q2, q3, q4, q5, q6, q7, q8, q9]) rfl (by rw [HF.out]; exact ⟨a, n, k, rfl, HA5.out.grown hq.2 (fun q hq' => HQ.out q hq'), HNB.out, grown_below HB5.out hq.2 (Nat.le_refl _)⟩)
    have e1 : (role != 1) = false := by simpa using h1
    by_cases h3 : nonce.length = 32
    rotate_left
    · have e3 : ((nonce.length : Int) != 32) = true := by rw [bne_iff_ne]; omega
      have HF := Lib.hid (show R = (Au.zero, 1) from by rw [HSH.out, if_pos (.inr h3)])
      clear h1  h3 hro hkn
      obtain ⟨⟨z0, z1, z2, z3, z4, z5, z6, z7, z8, z9⟩, ⟨u0, u1, u2, u3, u4, u5, u6, u7, u8, u9⟩⟩ := cv_readsZ HZ1.out
      have HZF := Lib.hid HZ1.out
      have HBF := Lib.hid HB1.out
      go_wp2_with fail
      have hq := cv_stored (.int .i64 0) (.string (T [])) (.int .i64 0) (.int .i64 0) (.int .i64 0) (.slice none 0 0) (.string (T [])) (.string (T [])) (.string (T [])) (.int .i64 0) HZF.out
      obtain ⟨⟨q0, q1, q2, q3, q4, q5, q6, q7, q8, q9⟩, _⟩ := cv_readsZ hq.1
      exact bodyPost_ret (v := .tuple #[.agg #[.int .i64 0, .string (T []), .int .i64 0, .int .i64 0, .int .i64 0, .slice none 0 0, .string (T []), .string (T []), .string (T []), .int .i64 0], .int .i64 (1)]) (by simp [results, Tryz.results24, go_sem, q0, q1, q2, q3, q4, q5, q6, q7, q8, q9]) rfl (by rw [HF.out]; exact ⟨none, 0, 0, rfl, atts_nil _, (fun q hq' => by cases hq'), grown_below HBF.out hq.2 (Nat.le_refl _)⟩)
    have e3 : ((nonce.length : Int) != 32) = false := by rw [bne_eq_false_iff_eq]; omega
    have HS := Lib.hid (HSH.out.trans (if_neg (by omega)))
    clear hro h1  h3 hkn
    have HKE := Lib.hid (show Au.keyE l = if Au.check l = 0 then (if Au.keyOk l = true then 0 else 52) else Au.check l from rfl)
    generalize Au.check l = E at *
    generalize Au.keyOk l = kb at *
    go_wp2_with fail
    (with_reducible refine (HCK.out _ HB1.out).mono ?_); rintro e w3 ⟨rfl, b3⟩
    have HZ3 := Lib.hid ((b3.block _ (row_ltA HZ1.out)).trans HZ1.out)
    have HB3 := Lib.hid (bnext HB1.out b3)
    clear b3
    by_cases h4 : E = 0
    rotate_left
    · have e4 : (E != 0) = true := by simpa using h4
      have HF := Lib.hid (show R = (Au.zero, E) from by rw [HS.out, HKE.out, if_neg h4, if_pos h4])
      clear h4
      obtain ⟨⟨z0, z1, z2, z3, z4, z5, z6, z7, z8, z9⟩, ⟨u0, u1, u2, u3, u4, u5, u6, u7, u8, u9⟩⟩ := cv_readsZ HZ3.out
      have HZF := Lib.hid HZ3.out
      have HBF := Lib.hid HB3.out
      go_wp2_with fail
      have hq := cv_stored (.int .i64 0) (.string (T [])) (.int .i64 0) (.int .i64 0) (.int .i64 0) (.slice none 0 0) (.string (T [])) (.string (T [])) (.string (T [])) (.int .i64 0) HZF.out
      obtain ⟨⟨q0, q1, q2, q3, q4, q5, q6, q7, q8, q9⟩, _⟩ := cv_readsZ hq.1
      exact bodyPost_ret (v := .tuple #[.agg #[.int .i64 0, .string (T []), .int .i64 0, .int .i64 0, .int .i64 0, .slice none 0 0, .string (T []), .string (T []), .string (T []), .int .i64 0], .int .i64 (E)]) (by simp [results, Tryz.results24, go_sem, q0, q1, q2, q3, q4, q5, q6, q7, q8, q9]) rfl (by rw [HF.out]; exact ⟨none, 0, 0, rfl, atts_nil _, (fun q hq' => by cases hq'), grown_below HBF.out hq.2 (Nat.le_refl _)⟩)
    subst h4
    go_wp2_with fail
    (with_reducible refine (HIK.out _ HB3.out).mono ?_); rintro e w4 ⟨rfl, b4⟩
    have HZ4 := Lib.hid ((b4.block _ (row_ltA HZ3.out)).trans HZ3.out)
    have HB4 := Lib.hid (bnext HB3.out b4)
    clear b4
    cases kb with
    | false =>
      have HF := Lib.hid (show R = (Au.zero, 52) from by rw [HS.out, HKE.out]; simp)
      obtain ⟨⟨z0, z1, z2, z3, z4, z5, z6, z7, z8, z9⟩, ⟨u0, u1, u2, u3, u4, u5, u6, u7, u8, u9⟩⟩ := cv_readsZ HZ4.out
      have HZF := Lib.hid HZ4.out
      have HBF := Lib.hid HB4.out
      go_wp2_with fail
      have hq := cv_stored (.int .i64 0) (.string (T [])) (.int .i64 0) (.int .i64 0) (.int .i64 0) (.slice none 0 0) (.string (T [])) (.string (T [])) (.string (T [])) (.int .i64 0) HZF.out
      obtain ⟨⟨q0, q1, q2, q3, q4, q5, q6, q7, q8, q9⟩, _⟩ := cv_readsZ hq.1
      exact bodyPost_ret (v := .tuple #[.agg #[.int .i64 0, .string (T []), .int .i64 0, .int .i64 0, .int .i64 0, .slice none 0 0, .string (T []), .string (T []), .string (T []), .int .i64 0], .int .i64 (52)]) (by simp [results, Tryz.results24, go_sem, q0, q1, q2, q3, q4, q5, q6, q7, q8, q9]) rfl (by rw [HF.out]; exact ⟨none, 0, 0, rfl, atts_nil _, (fun q hq' => by cases hq'), grown_below HBF.out hq.2 (Nat.le_refl _)⟩)
    | true =>
      have HF := Lib.hid (show R = (Au.settled ⟨0, proto, role, 0, 0, l, nonce, [], [], 0⟩, 0) from by rw [HS.out, HKE.out]; simp)
      go_wp2_with fail
      (with_reducible refine (HSE.out _ HB4.out).mono ?_); rintro e w5 ⟨a, n, k, rfl, hat, hab, b5⟩
      have hz5 := (b5.block _ (row_ltA HZ4.out)).trans HZ4.out
      have HZ5 := Lib.hid hz5
      obtain ⟨⟨z0, z1, z2, z3, z4, z5, z6, z7, z8, z9⟩, ⟨u0, u1, u2, u3, u4, u5, u6, u7, u8, u9⟩⟩ := cv_readsZ hz5
      have HA5 := Lib.hid hat
      have HB5 := Lib.hid (bnext HB4.out b5)
      have HQ := Lib.hid (show ∀ q, a = some q → q.block ≠ w.heap.size from fun q hq => by have := hab q hq; have := row_ltA HZ4.out; omega)
      have HNB := Lib.hid (show ∀ q, a = some q → w.heap.size ≤ q.block from fun q hq => by have := hab q hq; have := row_ltA HZ4.out; omega)
      clear hat hab b5 hz5
      go_wp2_with fail
      have hq := cv_stored (.int .i64 (Au.settled ⟨0, proto, role, 0, 0, l, nonce, [], [], 0⟩).id) (.string (T (Au.settled ⟨0, proto, role, 0, 0, l, nonce, [], [], 0⟩).proto)) (.int .i64 (Au.settled ⟨0, proto, role, 0, 0, l, nonce, [], [], 0⟩).role) (.int .i64 (Au.settled ⟨0, proto, role, 0, 0, l, nonce, [], [], 0⟩).phase) (.int .i64 (Au.settled ⟨0, proto, role, 0, 0, l, nonce, [], [], 0⟩).step) ((.slice a n k)) (.string (T (Au.settled ⟨0, proto, role, 0, 0, l, nonce, [], [], 0⟩).own)) (.string (T (Au.settled ⟨0, proto, role, 0, 0, l, nonce, [], [], 0⟩).peer)) (.string (T (Au.settled ⟨0, proto, role, 0, 0, l, nonce, [], [], 0⟩).user)) (.int .i64 (Au.settled ⟨0, proto, role, 0, 0, l, nonce, [], [], 0⟩).err) HZ5.out
      obtain ⟨⟨q0, q1, q2, q3, q4, q5, q6, q7, q8, q9⟩, _⟩ := cv_readsZ hq.1
      exact bodyPost_ret (v := .tuple #[.agg #[.int .i64 (Au.settled ⟨0, proto, role, 0, 0, l, nonce, [], [], 0⟩).id, .string (T (Au.settled ⟨0, proto, role, 0, 0, l, nonce, [], [], 0⟩).proto), .int .i64 (Au.settled ⟨0, proto, role, 0, 0, l, nonce, [], [], 0⟩).role, .int .i64 (Au.settled ⟨0, proto, role, 0, 0, l, nonce, [], [], 0⟩).phase, .int .i64 (Au.settled ⟨0, proto, role, 0, 0, l, nonce, [], [], 0⟩).step, (.slice a n k), .string (T (Au.settled ⟨0, proto, role, 0, 0, l, nonce, [], [], 0⟩).own), .string (T (Au.settled ⟨0, proto, role, 0, 0, l, nonce, [], [], 0⟩).peer), .string (T (Au.settled ⟨0, proto, role, 0, 0, l, nonce, [], [], 0⟩).user), .int .i64 (Au.settled ⟨0, proto, role, 0, 0, l, nonce, [], [], 0⟩).err], .int .i64 0]) (by simp [results, Tryz.results24, go_sem, q0, q1, q2, q3, q4, q5, q6, q7, q8, q9]) rfl (by rw [HF.out]; exact ⟨a, n, k, rfl, HA5.out.grown hq.2 (fun q hq' => HQ.out q hq'), HNB.out, grown_below HB5.out hq.2 (Nat.le_refl _)⟩)
end Go.Proofs.YtjjdaelddicokaaGreatDoor
