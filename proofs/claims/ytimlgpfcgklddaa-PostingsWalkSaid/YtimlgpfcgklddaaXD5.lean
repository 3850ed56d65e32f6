/-
Texts of this seat, laid together: D5.
-/
import Derived.Test.YtimlgpfcgklddaaXF12
import Derived.Test.YtimlgpfcgklddaaXD3
/-
Bytes compared: slices.Equal, the kit's Bytes.
-/
namespace Go.Proofs.Ytimlgpfcgklddaa.P
open Go.RowKit Go.Shelf Go.Proofs.YtimlgpfcgklddaaW.PrintWords Go.Proofs.YtimlgpfcgklddaaW.PrintLast Go.Proofs.YtimlgpfcgklddaaW.PrintMore
set_option linter.unusedVariables false
theorem wrap64_small {x : Int} (h0 : -9223372036854775808 ≤ x) (h1 : x ≤ 9223372036854775807) : wrap64 x = x := by
  unfold wrap64
  omega
theorem eqGo (x0 x1 : List Int) (h : x0.length = x1.length) (hm : x0.length ≤ 9223372036854775807) : ∀ (k j : Nat), x0.length < j + k → j ≤ x0.length → slices_Equal_byte_byte.l0 k x0 x1 x0.length j = some (decide (x0.drop j = x1.drop j))
  | 0, j, h1, h2 => by omega
  | k + 1, j, h1, h2 => by
    rw [slices_Equal_byte_byte.l0]
    by_cases hj : j < x0.length
    · rw [if_pos (by omega), if_pos (by omega), if_pos (by omega), if_pos (by omega), drop_rd x0 j hj, drop_rd x1 j (by omega)]
      by_cases he : rd x0 j = rd x1 j
      · rw [if_pos he, wrap64_small (by omega) (by omega), he]
        have := eqGo x0 x1 h hm k (j + 1) (by omega) (by omega)
        rw [show ((j : Int) + 1) = ((j + 1 : Nat) : Int) from rfl, this]
        simp
      · rw [if_neg he]
        simp [he]
    · rw [if_neg (by omega), List.drop_eq_nil_of_le (by omega), List.drop_eq_nil_of_le (by omega)]
      simp
theorem Equal_calls (A0 A1 : Option Addr) (c0 c1 : Nat) (x0 x1 : List Int) (w : World) (h0 : (Kd.int .u8).C w A0 x0.length x0) (hc0 : x0.length ≤ c0) (h1 : (Kd.int .u8).C w A1 x1.length x1) (hc1 : x1.length ≤ c1) :
    Calls Try.prog 56 #[.slice A0 x0.length c0, .slice A1 x1.length c1] w fun e w' => e = .returned (.bool (decide (x0 = x1))) ∧ Drawn0 w w' := by
  refine slices_Equal_byte_byte.calls (x0.length + 1) A0 c0 x0 A1 c1 x1 _ w h0 hc0 h1 hc1 ?_
  unfold slices_Equal_byte_byte.f
  by_cases h : x0.length = x1.length
  · rw [if_pos (by omega)]
    have := eqGo x0 x1 h (Kd.C_max h0) (x0.length + 1) 0 (by omega) (by omega)
    exact this
  · rw [if_neg (by omega)]
    have : ¬ x0 = x1 := fun e => h (by rw [e])
    simp [this]
theorem bytesGo (x0 x1 : List Int) (h : x0.length = x1.length) (hm : x0.length ≤ 9223372036854775807) : ∀ (k j : Nat), x0.length < j + k → j ≤ x0.length → lecternkit_Bytes.l0 k x0 x1 j = some (decide (x0.drop j = x1.drop j))
  | 0, j, h1, h2 => by omega
  | k + 1, j, h1, h2 => by
    rw [lecternkit_Bytes.l0]
    by_cases hj : j < x0.length
    · rw [if_pos (by omega), if_pos (by omega), if_pos (by omega), drop_rd x0 j hj, drop_rd x1 j (by omega)]
      by_cases he : rd x0 j = rd x1 j
      · rw [if_pos he, wrap64_small (by omega) (by omega), he]
        have := bytesGo x0 x1 h hm k (j + 1) (by omega) (by omega)
        rw [show ((j : Int) + 1) = ((j + 1 : Nat) : Int) from rfl, this]
        simp
      · rw [if_neg he]
        simp [he]
    · rw [if_neg (by omega), List.drop_eq_nil_of_le (by omega), List.drop_eq_nil_of_le (by omega)]
      simp
theorem bytesF (x0 x1 : List Int) (hm : x0.length ≤ 9223372036854775807) : lecternkit_Bytes.f (x0.length + 1) x0 x1 = some (decide (x0 = x1)) := by
  unfold lecternkit_Bytes.f
  by_cases h : x0.length = x1.length
  · rw [if_pos (by omega)]
    exact bytesGo x0 x1 h hm (x0.length + 1) 0 (by omega) (by omega)
  · rw [if_neg (by omega)]
    have : ¬ x0 = x1 := fun e => h (by rw [e])
    simp [this]
theorem Bytes13_calls (A0 A1 : Option Addr) (c0 c1 : Nat) (x0 x1 : List Int) (w : World) (h0 : (Kd.int .u8).C w A0 x0.length x0) (hc0 : x0.length ≤ c0) (h1 : (Kd.int .u8).C w A1 x1.length x1) (hc1 : x1.length ≤ c1) :
    Calls Try.prog 13 #[.slice A0 x0.length c0, .slice A1 x1.length c1] w fun e w' => e = .returned (.bool (decide (x0 = x1))) ∧ Drawn0 w w' :=
  lecternkit_Bytes.calls (x0.length + 1) A0 c0 x0 A1 c1 x1 _ w h0 hc0 h1 hc1 (bytesF x0 x1 (Kd.C_max h0))
end Go.Proofs.Ytimlgpfcgklddaa.P
