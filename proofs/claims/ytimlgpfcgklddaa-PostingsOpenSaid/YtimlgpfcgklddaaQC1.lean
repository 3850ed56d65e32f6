/-
Texts of this seat, laid together: C1.
-/
import Derived.Test.YtimlgpfcgklddaaQA15
namespace Go.Proofs.Ytimlgpfcgklddaa
/-- The number at the head of bytes and how many bytes it has (-1: there is none). -/
def numGo : List Int → Nat → Int → Int × Int
  | [], _, _ => (0, -1)
  | c :: r, i, n =>
    if i = 9 ∧ c % 128 > 1 then (0, -1) else
    if c < 128 then (if c = 0 ∧ 0 < i then (0, -1) else (n + c % 128 * 2 ^ (7 * i), (i : Int) + 1)) else numGo r (i + 1) (n + c % 128 * 2 ^ (7 * i))
def numF (bs : List Int) : Int × Int := numGo (bs.take 10) 0 0
theorem and127 {x : Int} (h0 : 0 ≤ x) (h1 : x < 256) : IntKind.u64.wrap (bits .and .u8 x 127) = x % 128 := by
  have := bits_mask .u8 8 (by decide) wraps_u8 7 (by decide) x h0 (by omega)
  rw [show ((2 : Int) ^ 7 - 1) = 127 from rfl] at this
  rw [this, wrap_u64]
  omega
theorem or_group {n g : Int} {k : Nat} (hk : k ≤ 64) (h0 : 0 ≤ n) (h1 : n < 2 ^ k) (hg0 : 0 ≤ g) (hg : g * 2 ^ k < 18446744073709551616) : bits .or .u64 n (IntKind.u64.wrap (g * 2 ^ k)) = n + g * 2 ^ k := by
  obtain ⟨a, rfl⟩ := Int.eq_ofNat_of_zero_le h0
  obtain ⟨b, rfl⟩ := Int.eq_ofNat_of_zero_le hg0
  have h2 : a < 2 ^ k := by exact_mod_cast h1
  have h3 : b * 2 ^ k < 18446744073709551616 := by
    have e : ((b * 2 ^ k : Nat) : Int) = (b : Int) * 2 ^ k := by push_cast; rfl
    omega
  have h4 : a < 2 ^ 64 := Nat.lt_of_lt_of_le h2 (Nat.pow_le_pow_right (by decide) hk)
  have h5 := (bits_nat .u64 64 (Nat.le_refl _) (fun n h0 h1 => by rw [wrap_u64]; omega) a (b * 2 ^ k) h4 (by omega)).2
  rw [or_low h2] at h5
  have h6 : ((b : Int) * 2 ^ k) = ((b * 2 ^ k : Nat) : Int) := by push_cast; rfl
  rw [h6, wrap_u64, Int.emod_eq_of_lt (by omega) (by omega), h5]
  push_cast
  rfl
theorem pow7 {i : Nat} (h : i ≤ 9) : (2 : Int) ^ (7 * i) ≤ 2 ^ 63 ∧ (i ≤ 8 → (2 : Int) ^ (7 * i) ≤ 2 ^ 56) := by
  have h1 : (2 : Nat) ^ (7 * i) ≤ 2 ^ 63 := Nat.pow_le_pow_right (by decide) (by omega)
  refine ⟨by exact_mod_cast h1, fun h8 => ?_⟩
  have h2 : (2 : Nat) ^ (7 * i) ≤ 2 ^ 56 := Nat.pow_le_pow_right (by decide) (by omega)
  exact_mod_cast h2
end Go.Proofs.Ytimlgpfcgklddaa
namespace Go.Proofs.Ytimlgpfcgklddaa.P
open Go.RowKit Go.Shelf Go.Proofs.YtimlgpfcgklddaaW.PrintWords Go.Proofs.YtimlgpfcgklddaaW.PrintLast Go.Proofs.YtimlgpfcgklddaaW.PrintMore
attribute [local go_sem] min2_mn min_two
set_option linter.unusedVariables false
set_option linter.unusedSimpArgs false
set_option maxRecDepth 100000 in
set_option maxHeartbeats 4000000 in
theorem number_calls (rv : Value) (A : Option Addr) (bs : List Int) (c : Nat) (w : World) (h : (Kd.int .u8).C w A bs.length bs) (hc : bs.length ≤ c) (hl : bs.length ≤ 140737488355328) (hb : ∀ x ∈ bs, 0 ≤ x ∧ x < 256) :
    Calls Try.prog 82 #[rv, .slice A bs.length c] w fun e w' => e = .returned (.tuple #[.int .u64 (numF bs).1, .int .i64 (numF bs).2]) ∧ w' = w := by
  have H := Aside0.mk h
  have HR := Aside0.mk hb
  clear h hb
  obtain ⟨m, hm, hm1, hm2, hm3⟩ : ∃ m : Nat, mn (bs.length : Int) 10 = (m : Int) ∧ m ≤ bs.length ∧ m ≤ 10 ∧ (bs.take 10).length = m := ⟨min bs.length 10, by unfold mn; split <;> omega, by omega, by omega, by rw [List.length_take]; omega⟩
  have HM := Aside0.mk hm3
  clear hm3
  go_enter Try.func82, Try.ntmps82
  go_wp2
  go_loopg [6, 16] m (fun kq v6 v16 w' => ∃ (i : Nat) (n : Int), v6 = .int .u64 n ∧ v16 = .int .i64 i ∧ w' = w ∧ Aside0 (kq + i = m) ∧ Aside0 (0 ≤ n ∧ n < 2 ^ (7 * i)) ∧ Aside0 (numGo ((bs.take 10).drop i) i n = numF bs))
  case atStart => exact ⟨0, 0, rfl, rfl, rfl, ⟨by omega⟩, ⟨by omega, by decide⟩, ⟨rfl⟩⟩
  case round =>
    obtain ⟨i, n, rfl, rfl, rfl, HK, HN, HG⟩ := hrel
    by_cases hlt : i < m
    · obtain ⟨ad, rfl, hx⟩ := Kd.at_int H.out (i : Int) (by omega) (by omega)
      rw [Int.toNat_natCast] at hx
      have hrx : 0 ≤ rd bs i ∧ rd bs i < 256 := HR.out _ (by unfold rd; rw [Int.toNat_natCast]; have : i < bs.length := by omega
                                                             simp [this])
      obtain ⟨x, hxe⟩ : ∃ x, rd bs i = x := ⟨_, rfl⟩
      rw [hxe] at hx hrx
      have HX := Aside0.mk hxe
      have hstep : Aside0 ((bs.take 10).drop i = x :: (bs.take 10).drop (i + 1)) := ⟨by
        have h1 : i < (bs.take 10).length := by rw [HM.out]; exact hlt
        rw [List.drop_eq_getElem_cons h1]
        rw [← HX.out]
        unfold rd
        rw [Int.toNat_natCast]
        have h2 : i < bs.length := by omega
        simp [h2]⟩
      clear hxe
      obtain ⟨hx0, hx1⟩ := hrx
      have hg : IntKind.u64.wrap (bits .and .u8 x 127) = x % 128 := and127 hx0 hx1
      have hi9 : i ≤ 9 := by omega
      have hp : (2 : Int) ^ (7 * i) ≤ 2 ^ 63 ∧ (i ≤ 8 → (2 : Int) ^ (7 * i) ≤ 2 ^ 56) := pow7 hi9
      have HO : Aside0 (x % 128 * 2 ^ (7 * i) < 18446744073709551616 → bits .or .u64 n (IntKind.u64.wrap (x % 128 * 2 ^ (7 * i))) = n + x % 128 * 2 ^ (7 * i)) := ⟨fun h => or_group (by omega) HN.out.1 HN.out.2 (by omega) h⟩
      have HP := Aside0.mk hp
      clear hp
      have HG1 : Aside0 ((if i = 9 ∧ x % 128 > 1 then ((0, -1) : Int × Int) else if x < 128 then (if x = 0 ∧ 0 < i then (0, -1) else (n + x % 128 * 2 ^ (7 * i), (i : Int) + 1)) else numGo ((bs.take 10).drop (i + 1)) (i + 1) (n + x % 128 * 2 ^ (7 * i))) = numF bs) := ⟨by rw [← HG.out, hstep.out]; rfl⟩
      have HN10 : Aside0 (0 ≤ n + x % 128 * 2 ^ (7 * i) ∧ n + x % 128 * 2 ^ (7 * i) < 2 ^ (7 * (i + 1))) := ⟨by
        have h1 := HN.out
        have h2 : (2 : Int) ^ (7 * (i + 1)) = 128 * 2 ^ (7 * i) := by rw [Nat.mul_add, Int.pow_add]; omega
        have h3 : 0 ≤ x % 128 * 2 ^ (7 * i) := Int.mul_nonneg (by omega) (by omega)
        have h4 : x % 128 * 2 ^ (7 * i) ≤ 127 * 2 ^ (7 * i) := Int.mul_le_mul_of_nonneg_right (by omega) (by omega)
        omega⟩
      clear HG
      go_wp2
      · have h := HG1.out
        rw [if_pos (show i = 9 ∧ x % 128 > 1 by omega)] at h
        go_ret2
        exact ⟨by rw [← h]; rfl, rfl⟩
      · have h := HG1.out
        rw [if_neg (show ¬ (i = 9 ∧ x % 128 > 1) by omega), if_pos (show x < 128 by omega), if_pos (show x = 0 ∧ 0 < i by omega)] at h
        go_ret2
        exact ⟨by rw [← h]; rfl, rfl⟩
      · have h := HG1.out
        have h5 : i = 9 := by omega
        rw [if_neg (show ¬ (i = 9 ∧ x % 128 > 1) by omega), if_pos (show x < 128 by omega), if_neg (show ¬ (x = 0 ∧ 0 < i) by omega)] at h
        have ho := HO.out (by rw [h5]; show x % 128 * 9223372036854775808 < _; omega)
        rw [h5] at ho h
        have e9 : bits .or .u64 n (x % 128 * 9223372036854775808) = n + x % 128 * 9223372036854775808 := by
          have e1 : IntKind.u64.wrap (x % 128 * 9223372036854775808) = x % 128 * 9223372036854775808 := by rw [wrap_u64]; omega
          have e2 : bits .or .u64 n (IntKind.u64.wrap (x % 128 * 9223372036854775808)) = n + x % 128 * 9223372036854775808 := ho
          rwa [e1] at e2
        go_ret2
        refine ⟨?_, rfl⟩
        rw [← h, e9]
        rfl
      · have h := HG1.out
        have h5 : i = 9 := by omega
        have ho := HO.out (by rw [h5]; show x % 128 * 9223372036854775808 < _; omega)
        rw [if_neg (show ¬ (i = 9 ∧ x % 128 > 1) by omega), if_neg (show ¬ x < 128 by omega)] at h
        rw [h5] at ho
        have e9 : bits .or .u64 n (x % 128 * 9223372036854775808) = n + x % 128 * 9223372036854775808 := by
          have e1 : IntKind.u64.wrap (x % 128 * 9223372036854775808) = x % 128 * 9223372036854775808 := by rw [wrap_u64]; omega
          have e2 : bits .or .u64 n (IntKind.u64.wrap (x % 128 * 9223372036854775808)) = n + x % 128 * 9223372036854775808 := ho
          rwa [e1] at e2
        rw [e9]
        go_roundg (gk - 1)
        case measure => have := HK.out; omega
        case rel => exact ⟨i + 1, n + x % 128 * 2 ^ (7 * i), by rw [h5]; rfl, by rw [h5]; rfl, rfl, ⟨by have := HK.out; omega⟩, HN10, ⟨h⟩⟩
      · have h := HG1.out
        rw [if_neg (show ¬ (i = 9 ∧ x % 128 > 1) by omega), if_pos (show x < 128 by omega), if_pos (show x = 0 ∧ 0 < i by omega)] at h
        go_ret2
        exact ⟨by rw [← h]; rfl, rfl⟩
      · have h := HG1.out
        have hi0 : i = 0 := by omega
        rw [if_neg (show ¬ (i = 9 ∧ x % 128 > 1) by omega), if_pos (show x < 128 by omega), if_neg (show ¬ (x = 0 ∧ 0 < i) by omega)] at h
        have e0 : bits .or .u64 n (IntKind.u64.wrap 0) = n := by
          have := or_group (n := n) (g := 0) (k := 0) (by omega) (by have := HN.out; rw [hi0] at this; exact this.1) (by have := HN.out; rw [hi0] at this; exact this.2) (by omega) (by decide)
          simpa using this
        have hx00 : x = 0 := by omega
        go_ret2
        refine ⟨?_, rfl⟩
        rw [← h, hi0, hx00]
        show Ending.returned (Value.tuple #[.int .u64 (bits .or .u64 n (IntKind.u64.wrap 0)), .int .i64 (0 + 1)]) = Ending.returned (Value.tuple #[.int .u64 (n + 0), .int .i64 (0 + 1)])
        rw [e0, Int.add_zero]
      · have h := HG1.out
        have h8 : i ≤ 8 := by omega
        have hp := HP.out.2 h8
        have ho := HO.out (Int.lt_of_le_of_lt (Int.mul_le_mul_of_nonneg_left hp (by omega)) (by show x % 128 * 72057594037927936 < _; omega))
        rw [if_neg (show ¬ (i = 9 ∧ x % 128 > 1) by omega), if_pos (show x < 128 by omega), if_neg (show ¬ (x = 0 ∧ 0 < i) by omega)] at h
        go_ret2
        refine ⟨?_, rfl⟩
        rw [← h, ← ho]
        rfl
      · have h := HG1.out
        have h8 : i ≤ 8 := by omega
        have hp := HP.out.2 h8
        have ho := HO.out (Int.lt_of_le_of_lt (Int.mul_le_mul_of_nonneg_left hp (by omega)) (by show x % 128 * 72057594037927936 < _; omega))
        rw [if_neg (show ¬ (i = 9 ∧ x % 128 > 1) by omega), if_neg (show ¬ x < 128 by omega)] at h
        rw [ho]
        go_roundg (gk - 1)
        case measure => have := HK.out; omega
        case rel => exact ⟨i + 1, _, rfl, by first | rfl | (simp; done), rfl, ⟨by have := HK.out; omega⟩, HN10, ⟨h⟩⟩
    · go_wp2
      have e2 : numF bs = (0, -1) := by
        rw [← HG.out, List.drop_eq_nil_of_le (by rw [HM.out]; omega)]
        rfl
      go_ret2
      exact ⟨by rw [e2]; rfl, rfl⟩
end Go.Proofs.Ytimlgpfcgklddaa.P
