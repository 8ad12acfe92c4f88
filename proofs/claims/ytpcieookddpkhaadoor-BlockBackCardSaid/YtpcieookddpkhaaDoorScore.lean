/- What hash.Sum and hash.Score return, at a seat without hash.Mac. Conditions: the 64 constants in the variable; texts of at most 10^6 bytes. -/
import Derived.Test.YtpcieookddpkhaaDoorShaSum
set_option linter.unusedVariables false
namespace Go.Proofs.YtpcieookddpkhaaDoor
open Go.RowKit

theorem sum_T (l : List UInt8) (w : World) (hs : l.length ≤ 1000000000) (hK : KIn w) :
    Calls Tryd.prog 52 #[.string (T l)] w fun e w' => e = .returned (.string (T (Sha.sum l))) ∧ Below w.heap.size w w' :=
  sum_any (T l) w (by rw [T_size]; exact hs) hK

/-- The byte of a number. -/
def kb (n : Int) : UInt8 := UInt8.ofNat (n % 256).toNat
set_option maxRecDepth 100000 in
set_option maxHeartbeats 1000000 in
theorem score_T (n : Int) (s : List UInt8) (w : World) (hs : s.length ≤ 1000000) (hK : KIn w) :
    Calls Tryd.prog 44 #[.int .i64 n, .string (T s)] w fun e w' => e = .returned (.string (T (Sha.sum (kb n :: s)))) ∧ Below w.heap.size w w' := by
  have HK := Lib.hid hK
  have HN := Lib.hid (show n % 256 = ((kb n).toNat : Int) from by unfold kb; rw [UInt8.toNat_ofNat']; omega)
  clear hK
  have hcv : (convert 58 9 (.slice (some ⟨w.heap.size, 0, none⟩) 1 1)).run Tryd.prog (w.alloc (.cells #[.int .u8 (n % 256)] 5)) = .ok (.string (T [kb n])) (w.alloc (.cells #[.int .u8 (n % 256)] 5)) := by
    refine run_convert_bytes_back _ 58 9 5 ⟨w.heap.size, 0, none⟩ 1 [kb n] Tryd.underlying58 Tryd.underlying5 Tryd.underlying9 fun j hj => ?_
    have hj0 : j = 0 := by simpa using hj
    subst hj0
    rw [HN.out]
    exact (cell_of_row _ _ _ _ _ _ (heap_alloc_new w _)).trans rfl
  have b1 : 1 + s.length ≤ 9223372036854775807 := by omega
  have b2 : s.length + 1 ≤ 9223372036854775807 := by omega
  go_enter Tryd.func44, Tryd.ntmps44
  go_wp2_with fail
  refine (sum_T (kb n :: s) _ (by simp; omega) (HK.out.below ((Below.refl _ _).alloc (Nat.le_refl _) _))).mono ?_; rintro e w1 ⟨rfl, h1⟩
  have hb : Below w.heap.size w w1 := ((Below.refl _ _).alloc (Nat.le_refl _) _).trans (h1.mono (by simp))
  clear h1
  go_wp2_with fail
  go_ret
  exact ⟨rfl, hb⟩
end Go.Proofs.YtpcieookddpkhaaDoor
