/- What the laws' alive returns: true. Conditions: none. -/
import Derived.Test.YtjefmjaommpaaaaPermRParse
import Derived.Test.YtjefmjaommpaaaaPermROpen
import Derived.Test.YtjefmjaommpaaaaPermPText
import Derived.Test.YtjefmjaommpaaaaPermType
import Derived.Test.YtjefmjaommpaaaaPermInh
import Derived.Test.YtjefmjaommpaaaaAllows
set_option linter.unusedVariables false
set_option linter.unusedSimpArgs false
namespace Go.Proofs.Ytjefmjaommpaaaa
open Go.RowKit
theorem parse_any (s : ByteArray) (w : World) (hs : s.size ≤ 9223372036854775807) : Calls Try.prog 10 #[.string s] w (Prm.ParSays s w) := by
  by_cases h : s.size = 11
  · exact parse_11 s w h
  · exact parse_bad s w hs h
theorem rparse_any (s : ByteArray) (w : World) (hs : s.size ≤ 9223372036854775807) : Calls Try.prog 11 #[.string s] w (Prm.ParSays s w) := by
  by_cases h : s.size = 11
  · exact rparse_11 s w h
  · exact rparse_bad s w hs h
theorem usrs_nil (w : World) : Usrs w (.slice none 0 0) [] := .inl ⟨rfl, rfl⟩
theorem alive_parse (w : World) : Calls Try.prog 10 #[.string (T [97, 45, 114, 119, 45, 45, 45, 45, 45, 45, 45])] w fun e w' => e = .returned (.tuple #[.int .i64 1073742208, .int .i64 0]) ∧ Below w.heap.size w w' := by
  have h := parse_any (T [97, 45, 114, 119, 45, 45, 45, 45, 45, 45, 45]) w (by rw [T_size]; decide)
  unfold Prm.ParSays at h
  rw [show Prm.prs (T [97, 45, 114, 119, 45, 45, 45, 45, 45, 45, 45]).data.toList = some 1073742208 from by decide +kernel] at h
  exact h
theorem alive_text (m : Int) (l : List UInt8) (h : Prm.txt m = l) (hm : m ≤ 9223372036854775807) (w : World) : Calls Try.prog 12 #[.int .i64 m] w fun e w' => e = .returned (.string (T l)) ∧ Below w.heap.size w w' := by
  rw [← h]; exact text_any m w hm
theorem alive_type (m t : Int) (h : Prm.typ m = t) (hm : m ≤ 9223372036854775807) (w : World) : Calls Try.prog 14 #[.int .i64 m] w fun e w' => e = .returned (.int .i64 t) ∧ Below w.heap.size w w' := by
  rw [← h]; exact type_any m hm w
theorem alive_allows (nm uid gid : ByteArray) (m wt : Int) (b : Bool) (h : Prm.alw (umem [] nm gid) (Prm.own nm uid) m wt = b) (hm : m ≤ 9223372036854775807) (w : World) :
    Calls Try.prog 21 #[.slice none 0 0, .string nm, .string uid, .string gid, .int .i64 m, .int .i64 wt] w fun e w' => e = .returned (.bool b) ∧ Below w.heap.size w w' := by
  rw [← h]; exact allows_any _ [] nm uid gid m wt hm w (usrs_nil w) (by decide) (fun j h => by simp at h)
theorem alive_open (m v z : Int) (hv : Prm.opnV m = v) (hz : Prm.opnE m = z) (hl : -9223372036854775808 ≤ m) (hm : m ≤ 9223372036854775807) (w : World) :
    Calls Try.prog 16 #[.int .i64 m] w fun e w' => e = .returned (.tuple #[.int .i64 v, .int .i64 z]) ∧ Below w.heap.size w w' := by
  rw [← hv, ← hz]; exact open_any m hl hm w
theorem alive_inherit (d m v : Int) (h : Prm.inh d m = v) (hd : d ≤ 9223372036854775807) (hm : m ≤ 9223372036854775807) (w : World) :
    Calls Try.prog 18 #[.int .i64 d, .int .i64 m] w fun e w' => e = .returned (.int .i64 v) ∧ w = w' := by
  rw [← h]; exact inherit_any d m hd hm w

set_option maxRecDepth 100000 in
set_option maxHeartbeats 1000000 in
theorem alive_any (w : World) : Calls Try.prog 9 #[] w fun e w' => e = .returned (.bool true) ∧ Below w.heap.size w w' := by
  have H1 := Lib.hid alive_parse
  have H2 := Lib.hid (alive_open 16 6 0 (by decide) (by decide) (by omega) (by omega))
  have H3 := Lib.hid (alive_open 32 0 12 (by decide) (by decide) (by omega) (by omega))
  have H4 := Lib.hid (alive_text 2147484141 [100, 45, 114, 119, 120, 114, 45, 120, 114, 45, 120] (by decide +kernel) (by omega))
  have H5 := Lib.hid (alive_text 420 [45, 45, 114, 119, 45, 114, 45, 45, 114, 45, 45] (by decide +kernel) (by omega))
  have H6 := Lib.hid (alive_text 512 [] (by decide +kernel) (by omega))
  have H7 := Lib.hid (alive_type 536871332 32 (by decide +kernel) (by omega))
  have H8 := Lib.hid (alive_allows (T [97, 110, 110]) (T [97, 110, 110]) (T [115, 121, 115]) 420 6 true (by decide +kernel) (by omega))
  have H9 := Lib.hid (alive_allows (T [98, 111, 98]) (T [97, 110, 110]) (T [115, 121, 115]) 420 6 false (by decide +kernel) (by omega))
  have H10 := Lib.hid (alive_allows (T [98, 111, 98]) (T [97, 110, 110]) (T [115, 121, 115]) 420 4 true (by decide +kernel) (by omega))
  have H11 := Lib.hid (alive_inherit 2147484141 438 420 (by decide +kernel) (by omega) (by omega))
  go_enter Try.func9, Try.ntmps9
  go_wp2_with fail
  refine (H1.out _).mono ?_; rintro e w1 ⟨rfl, b1⟩
  go_wp2_with fail
  refine (H2.out _).mono ?_; rintro e w2 ⟨rfl, b2⟩
  replace b2 := bnext b1 b2
  clear b1
  go_wp2_with fail
  refine (H3.out _).mono ?_; rintro e w3 ⟨rfl, b3⟩
  replace b3 := bnext b2 b3
  clear b2
  go_wp2_with fail
  refine (H4.out _).mono ?_; rintro e w4 ⟨rfl, b4⟩
  replace b4 := bnext b3 b4
  clear b3
  go_wp2_with fail
  refine (H5.out _).mono ?_; rintro e w5 ⟨rfl, b5⟩
  replace b5 := bnext b4 b5
  clear b4
  go_wp2_with fail
  refine (H6.out _).mono ?_; rintro e w6 ⟨rfl, b6⟩
  replace b6 := bnext b5 b6
  clear b5
  go_wp2_with fail
  refine (H7.out _).mono ?_; rintro e w7 ⟨rfl, b7⟩
  replace b7 := bnext b6 b7
  clear b6
  go_wp2_with fail
  refine (H8.out _).mono ?_; rintro e w8 ⟨rfl, b8⟩
  replace b8 := bnext b7 b8
  clear b7
  go_wp2_with fail
  refine (H9.out _).mono ?_; rintro e w9 ⟨rfl, b9⟩
  replace b9 := bnext b8 b9
  clear b8
  go_wp2_with fail
  refine (H10.out _).mono ?_; rintro e w10 ⟨rfl, b10⟩
  replace b10 := bnext b9 b10
  clear b9
  go_wp2_with fail
  refine (H11.out _).mono ?_; rintro e w11 ⟨rfl, rfl⟩
  go_wp2_with fail
  go_ret
  exact ⟨rfl, b10⟩
end Go.Proofs.Ytjefmjaommpaaaa
