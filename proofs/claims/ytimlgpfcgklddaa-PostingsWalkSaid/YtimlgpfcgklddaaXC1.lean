/-
Texts of this seat, laid together: C1, M7, M8, M9, C2, C3, C4, C5.
-/
import Derived.Test.YtimlgpfcgklddaaXM2
import Derived.Test.YtimlgpfcgklddaaXA1
import Derived.Test.YtimlgpfcgklddaaXA15
/-
codec.Reader.number: the number at the head of bytes.
-/
namespace Go.Proofs.Ytimlgpfcgklddaa
/-- The number at the head of bytes and how many bytes it has (-1: there is none). -/
def numGo : List Int → Nat → Int → Int × Int
  | [], _, _ => (0, -1)
  | c :: r, i, n =>
    if i = 9 ∧ c % 128 > 1 then (0, -1) else
    if c < 128 then (if c = 0 ∧ 0 < i then (0, -1) else (n + c % 128 * 2 ^ (7 * i), (i : Int) + 1)) else numGo r (i + 1) (n + c % 128 * 2 ^ (7 * i))
def numF (bs : List Int) : Int × Int := numGo (bs.take 10) 0 0
theorem and127 {x : Int} (h0 : 0 ≤ x) (h1 : x < 256) : IntKind.u64.wrap (bits .and .u8 x 127) = x % 128 := by
  have := bits_mask .u8 8 (by decide) wraps_u8 7 (by decide) x h0 (by omega)
  rw [show ((2 : Int) ^ 7 - 1) = 127 from rfl] at this
  rw [this, wrap_u64]
  omega
theorem or_group {n g : Int} {k : Nat} (hk : k ≤ 64) (h0 : 0 ≤ n) (h1 : n < 2 ^ k) (hg0 : 0 ≤ g) (hg : g * 2 ^ k < 18446744073709551616) : bits .or .u64 n (IntKind.u64.wrap (g * 2 ^ k)) = n + g * 2 ^ k := by
  obtain ⟨a, rfl⟩ := Int.eq_ofNat_of_zero_le h0
  obtain ⟨b, rfl⟩ := Int.eq_ofNat_of_zero_le hg0
  have h2 : a < 2 ^ k := by exact_mod_cast h1
  have h3 : b * 2 ^ k < 18446744073709551616 := by
    have e : ((b * 2 ^ k : Nat) : Int) = (b : Int) * 2 ^ k := by push_cast; rfl
    omega
  have h4 : a < 2 ^ 64 := Nat.lt_of_lt_of_le h2 (Nat.pow_le_pow_right (by decide) hk)
  have h5 := (bits_nat .u64 64 (Nat.le_refl _) (fun n h0 h1 => by rw [wrap_u64]; omega) a (b * 2 ^ k) h4 (by omega)).2
  rw [or_low h2] at h5
  have h6 : ((b : Int) * 2 ^ k) = ((b * 2 ^ k : Nat) : Int) := by push_cast; rfl
  rw [h6, wrap_u64, Int.emod_eq_of_lt (by omega) (by omega), h5]
  push_cast
  rfl
theorem pow7 {i : Nat} (h : i ≤ 9) : (2 : Int) ^ (7 * i) ≤ 2 ^ 63 ∧ (i ≤ 8 → (2 : Int) ^ (7 * i) ≤ 2 ^ 56) := by
  have h1 : (2 : Nat) ^ (7 * i) ≤ 2 ^ 63 := Nat.pow_le_pow_right (by decide) (by omega)
  refine ⟨by exact_mod_cast h1, fun h8 => ?_⟩
  have h2 : (2 : Nat) ^ (7 * i) ≤ 2 ^ 56 := Nat.pow_le_pow_right (by decide) (by omega)
  exact_mod_cast h2
end Go.Proofs.Ytimlgpfcgklddaa
namespace Go.Proofs.Ytimlgpfcgklddaa.P
open Go.RowKit Go.Shelf Go.Proofs.YtimlgpfcgklddaaW.PrintWords Go.Proofs.YtimlgpfcgklddaaW.PrintLast Go.Proofs.YtimlgpfcgklddaaW.PrintMore
attribute [local go_sem] min2_mn min_two
set_option linter.unusedVariables false
set_option linter.unusedSimpArgs false
set_option maxRecDepth 100000 in
set_option maxHeartbeats 4000000 in
theorem number_calls (rv : Value) (A : Option Addr) (bs : List Int) (c : Nat) (w : World) (h : (Kd.int .u8).C w A bs.length bs) (hc : bs.length ≤ c) (hl : bs.length ≤ 140737488355328) (hb : ∀ x ∈ bs, 0 ≤ x ∧ x < 256) :
    Calls Try.prog 82 #[rv, .slice A bs.length c] w fun e w' => e = .returned (.tuple #[.int .u64 (numF bs).1, .int .i64 (numF bs).2]) ∧ w' = w := by
  have H := Aside0.mk h
  have HR := Aside0.mk hb
  clear h hb
  obtain ⟨m, hm, hm1, hm2, hm3⟩ : ∃ m : Nat, mn (bs.length : Int) 10 = (m : Int) ∧ m ≤ bs.length ∧ m ≤ 10 ∧ (bs.take 10).length = m := ⟨min bs.length 10, by unfold mn; split <;> omega, by omega, by omega, by rw [List.length_take]; omega⟩
  have HM := Aside0.mk hm3
  clear hm3
  go_enter Try.func82, Try.ntmps82
  go_wp2
  go_loopg [6, 16] m (fun kq v6 v16 w' => ∃ (i : Nat) (n : Int), v6 = .int .u64 n ∧ v16 = .int .i64 i ∧ w' = w ∧ Aside0 (kq + i = m) ∧ Aside0 (0 ≤ n ∧ n < 2 ^ (7 * i)) ∧ Aside0 (numGo ((bs.take 10).drop i) i n = numF bs))
  case atStart => exact ⟨0, 0, rfl, rfl, rfl, ⟨by omega⟩, ⟨by omega, by decide⟩, ⟨rfl⟩⟩
  case round =>
    obtain ⟨i, n, rfl, rfl, rfl, HK, HN, HG⟩ := hrel
    by_cases hlt : i < m
    · obtain ⟨ad, rfl, hx⟩ := Kd.at_int H.out (i : Int) (by omega) (by omega)
      rw [Int.toNat_natCast] at hx
      have hrx : 0 ≤ rd bs i ∧ rd bs i < 256 := HR.out _ (by unfold rd; rw [Int.toNat_natCast]; have : i < bs.length := by omega
                                                             simp [this])
      obtain ⟨x, hxe⟩ : ∃ x, rd bs i = x := ⟨_, rfl⟩
      rw [hxe] at hx hrx
      have HX := Aside0.mk hxe
      have hstep : Aside0 ((bs.take 10).drop i = x :: (bs.take 10).drop (i + 1)) := ⟨by
        have h1 : i < (bs.take 10).length := by rw [HM.out]; exact hlt
        rw [List.drop_eq_getElem_cons h1]
        rw [← HX.out]
        unfold rd
        rw [Int.toNat_natCast]
        have h2 : i < bs.length := by omega
        simp [h2]⟩
      clear hxe
      obtain ⟨hx0, hx1⟩ := hrx
      have hg : IntKind.u64.wrap (bits .and .u8 x 127) = x % 128 := and127 hx0 hx1
      have hi9 : i ≤ 9 := by omega
      have hp : (2 : Int) ^ (7 * i) ≤ 2 ^ 63 ∧ (i ≤ 8 → (2 : Int) ^ (7 * i) ≤ 2 ^ 56) := pow7 hi9
      have HO : Aside0 (x % 128 * 2 ^ (7 * i) < 18446744073709551616 → bits .or .u64 n (IntKind.u64.wrap (x % 128 * 2 ^ (7 * i))) = n + x % 128 * 2 ^ (7 * i)) := ⟨fun h => or_group (by omega) HN.out.1 HN.out.2 (by omega) h⟩
      have HP := Aside0.mk hp
      clear hp
      have HG1 : Aside0 ((if i = 9 ∧ x % 128 > 1 then ((0, -1) : Int × Int) else if x < 128 then (if x = 0 ∧ 0 < i then (0, -1) else (n + x % 128 * 2 ^ (7 * i), (i : Int) + 1)) else numGo ((bs.take 10).drop (i + 1)) (i + 1) (n + x % 128 * 2 ^ (7 * i))) = numF bs) := ⟨by rw [← HG.out, hstep.out]; rfl⟩
      have HN10 : Aside0 (0 ≤ n + x % 128 * 2 ^ (7 * i) ∧ n + x % 128 * 2 ^ (7 * i) < 2 ^ (7 * (i + 1))) := ⟨by
        have h1 := HN.out
        have h2 : (2 : Int) ^ (7 * (i + 1)) = 128 * 2 ^ (7 * i) := by rw [Nat.mul_add, Int.pow_add]; omega
        have h3 : 0 ≤ x % 128 * 2 ^ (7 * i) := Int.mul_nonneg (by omega) (by omega)
        have h4 : x % 128 * 2 ^ (7 * i) ≤ 127 * 2 ^ (7 * i) := Int.mul_le_mul_of_nonneg_right (by omega) (by omega)
        omega⟩
      clear HG
      go_wp2
      · have h := HG1.out
        rw [if_pos (show i = 9 ∧ x % 128 > 1 by omega)] at h
        go_ret2
        exact ⟨by rw [← h]; rfl, rfl⟩
      · have h := HG1.out
        rw [if_neg (show ¬ (i = 9 ∧ x % 128 > 1) by omega), if_pos (show x < 128 by omega), if_pos (show x = 0 ∧ 0 < i by omega)] at h
        go_ret2
        exact ⟨by rw [← h]; rfl, rfl⟩
      · have h := HG1.out
        have h5 : i = 9 := by omega
        rw [if_neg (show ¬ (i = 9 ∧ x % 128 > 1) by omega), if_pos (show x < 128 by omega), if_neg (show ¬ (x = 0 ∧ 0 < i) by omega)] at h
        have ho := HO.out (by rw [h5]; show x % 128 * 9223372036854775808 < _; omega)
        rw [h5] at ho h
        have e9 : bits .or .u64 n (x % 128 * 9223372036854775808) = n + x % 128 * 9223372036854775808 := by
          have e1 : IntKind.u64.wrap (x % 128 * 9223372036854775808) = x % 128 * 9223372036854775808 := by rw [wrap_u64]; omega
          have e2 : bits .or .u64 n (IntKind.u64.wrap (x % 128 * 9223372036854775808)) = n + x % 128 * 9223372036854775808 := ho
          rwa [e1] at e2
        go_ret2
        refine ⟨?_, rfl⟩
        rw [← h, e9]
        rfl
      · have h := HG1.out
        have h5 : i = 9 := by omega
        have ho := HO.out (by rw [h5]; show x % 128 * 9223372036854775808 < _; omega)
        rw [if_neg (show ¬ (i = 9 ∧ x % 128 > 1) by omega), if_neg (show ¬ x < 128 by omega)] at h
        rw [h5] at ho
        have e9 : bits .or .u64 n (x % 128 * 9223372036854775808) = n + x % 128 * 9223372036854775808 := by
          have e1 : IntKind.u64.wrap (x % 128 * 9223372036854775808) = x % 128 * 9223372036854775808 := by rw [wrap_u64]; omega
          have e2 : bits .or .u64 n (IntKind.u64.wrap (x % 128 * 9223372036854775808)) = n + x % 128 * 9223372036854775808 := ho
          rwa [e1] at e2
        rw [e9]
        go_roundg (gk - 1)
        case measure => have := HK.out; omega
        case rel => exact ⟨i + 1, n + x % 128 * 2 ^ (7 * i), by rw [h5]; rfl, by rw [h5]; rfl, rfl, ⟨by have := HK.out; omega⟩, HN10, ⟨h⟩⟩
      · have h := HG1.out
        rw [if_neg (show ¬ (i = 9 ∧ x % 128 > 1) by omega), if_pos (show x < 128 by omega), if_pos (show x = 0 ∧ 0 < i by omega)] at h
        go_ret2
        exact ⟨by rw [← h]; rfl, rfl⟩
      · have h := HG1.out
        have hi0 : i = 0 := by omega
        rw [if_neg (show ¬ (i = 9 ∧ x % 128 > 1) by omega), if_pos (show x < 128 by omega), if_neg (show ¬ (x = 0 ∧ 0 < i) by omega)] at h
        have e0 : bits .or .u64 n (IntKind.u64.wrap 0) = n := by
          have := or_group (n := n) (g := 0) (k := 0) (by omega) (by have := HN.out; rw [hi0] at this; exact this.1) (by have := HN.out; rw [hi0] at this; exact this.2) (by omega) (by decide)
          simpa using this
        have hx00 : x = 0 := by omega
        go_ret2
        refine ⟨?_, rfl⟩
        rw [← h, hi0, hx00]
        show Ending.returned (Value.tuple #[.int .u64 (bits .or .u64 n (IntKind.u64.wrap 0)), .int .i64 (0 + 1)]) = Ending.returned (Value.tuple #[.int .u64 (n + 0), .int .i64 (0 + 1)])
        rw [e0, Int.add_zero]
      · have h := HG1.out
        have h8 : i ≤ 8 := by omega
        have hp := HP.out.2 h8
        have ho := HO.out (Int.lt_of_le_of_lt (Int.mul_le_mul_of_nonneg_left hp (by omega)) (by show x % 128 * 72057594037927936 < _; omega))
        rw [if_neg (show ¬ (i = 9 ∧ x % 128 > 1) by omega), if_pos (show x < 128 by omega), if_neg (show ¬ (x = 0 ∧ 0 < i) by omega)] at h
        go_ret2
        refine ⟨?_, rfl⟩
        rw [← h, ← ho]
        rfl
      · have h := HG1.out
        have h8 : i ≤ 8 := by omega
        have hp := HP.out.2 h8
        have ho := HO.out (Int.lt_of_le_of_lt (Int.mul_le_mul_of_nonneg_left hp (by omega)) (by show x % 128 * 72057594037927936 < _; omega))
        rw [if_neg (show ¬ (i = 9 ∧ x % 128 > 1) by omega), if_neg (show ¬ x < 128 by omega)] at h
        rw [ho]
        go_roundg (gk - 1)
        case measure => have := HK.out; omega
        case rel => exact ⟨i + 1, _, rfl, by first | rfl | (simp; done), rfl, ⟨by have := HK.out; omega⟩, HN10, ⟨h⟩⟩
    · go_wp2
      have e2 : numF bs = (0, -1) := by
        rw [← HG.out, List.drop_eq_nil_of_le (by rw [HM.out]; omega)]
        rfl
      go_ret2
      exact ⟨by rw [e2]; rfl, rfl⟩
end Go.Proofs.Ytimlgpfcgklddaa.P
/-
Numbers of a width out of bytes.
-/
namespace Go.Proofs.Ytimlgpfcgklddaa
open Go.RowKit
/-- The great number of bytes, the least first. -/
def leVal : List Int → Nat
  | [] => 0
  | x :: r => x.toNat + 256 * leVal r
theorem leVal_leB : ∀ (bs : List Int), (∀ x ∈ bs, 0 ≤ x ∧ x < 256) → leB bs.length (leVal bs) = bs
  | [], _ => rfl
  | x :: r, h => by
    have hx := h x (List.mem_cons_self ..)
    have ih := leVal_leB r fun y hy => h y (List.mem_cons_of_mem _ hy)
    unfold leB at ih ⊢
    rw [List.length_cons, List.range_succ_eq_map, List.map_cons, List.map_map]
    congr 1
    · rw [leVal, Nat.pow_zero, Nat.div_one]
      omega
    · refine Eq.trans ?_ ih
      apply List.map_congr_left
      intro j _
      simp only [Function.comp]
      rw [leVal, Nat.pow_succ, Nat.mul_comm (256 ^ j), ← Nat.div_div_eq_div_mul]
      have e : (x.toNat + 256 * leVal r) / 256 = leVal r := by omega
      rw [e]
theorem leVal_lt : ∀ (bs : List Int), (∀ x ∈ bs, 0 ≤ x ∧ x < 256) → leVal bs < 256 ^ bs.length
  | [], _ => by decide
  | x :: r, h => by
    have hx := h x (List.mem_cons_self ..)
    have ih := leVal_lt r fun y hy => h y (List.mem_cons_of_mem _ hy)
    rw [leVal, List.length_cons, Nat.pow_succ]
    omega
theorem piece (N a t : Nat) (h : a % 8 + t ≤ 8) : N / 256 ^ (a / 8) % 256 / 2 ^ (a % 8) % 2 ^ t = N / 2 ^ a % 2 ^ t := by
  have ha : 2 ^ a = 256 ^ (a / 8) * 2 ^ (a % 8) := by
    rw [show (256 : Nat) = 2 ^ 8 from rfl, ← Nat.pow_mul, ← Nat.pow_add]
    congr 1
    omega
  rw [ha, ← Nat.div_div_eq_div_mul]
  generalize N / 256 ^ (a / 8) = Y
  have e : (256 : Nat) = 2 ^ (a % 8) * 2 ^ (8 - a % 8) := by
    rw [← Nat.pow_add, show a % 8 + (8 - a % 8) = 8 from by omega]
  rw [e, Nat.mod_mul_right_div_self]
  exact Nat.mod_mod_of_dvd _ (Nat.pow_dvd_pow 2 (by omega))
theorem join (N b k t : Nat) : N / 2 ^ b % 2 ^ (k + t) = N / 2 ^ b % 2 ^ k + N / 2 ^ (b + k) % 2 ^ t * 2 ^ k := by
  rw [Nat.pow_add 2 k t, Nat.mod_mul, Nat.pow_add 2 b k, ← Nat.div_div_eq_div_mul, Nat.mul_comm (2 ^ k)]
/-- The numbers that bytes bear. -/
def unbitsL (N wd n : Nat) : List Int := (List.range n).map fun i => ((N / 2 ^ (wd * i) % 2 ^ wd : Nat) : Int)
def unbitsF (bs : List Int) (wd n : Nat) : Option (List Int) := if bs.length ≠ (wd * n + 7) / 8 then none else if leVal bs / 2 ^ (wd * n) ≠ 0 then none else some (unbitsL (leVal bs) wd n)
theorem tail_piece {bs : List Int} {a : Nat} (h : ∀ x ∈ bs, 0 ≤ x ∧ x < 256) (hl : bs.length = (a + 7) / 8) (h8 : 0 < a % 8) : leVal bs / 256 ^ (a / 8) % 256 / 2 ^ (a % 8) = leVal bs / 2 ^ a := by
  have h1 := leVal_lt bs h
  have ha : 2 ^ a = 256 ^ (a / 8) * 2 ^ (a % 8) := by
    rw [show (256 : Nat) = 2 ^ 8 from rfl, ← Nat.pow_mul, ← Nat.pow_add]
    congr 1
    omega
  rw [hl, show (a + 7) / 8 = a / 8 + 1 from by omega, Nat.pow_succ] at h1
  rw [ha, ← Nat.div_div_eq_div_mul]
  have h2 : leVal bs / 256 ^ (a / 8) < 256 := by
    rw [Nat.div_lt_iff_lt_mul (Nat.pow_pos (by decide)), Nat.mul_comm]
    exact h1
  rw [Nat.mod_eq_of_lt h2]
theorem tail_none {bs : List Int} {a : Nat} (h : ∀ x ∈ bs, 0 ≤ x ∧ x < 256) (hl : bs.length = (a + 7) / 8) (h8 : a % 8 = 0) : leVal bs / 2 ^ a = 0 := by
  have h1 := leVal_lt bs h
  have ha : 2 ^ a = 256 ^ (a / 8) := by
    rw [show (256 : Nat) = 2 ^ 8 from rfl, ← Nat.pow_mul]
    congr 1
    omega
  rw [hl, show (a + 7) / 8 = a / 8 from by omega] at h1
  rw [ha]
  exact Nat.div_eq_of_lt h1
end Go.Proofs.Ytimlgpfcgklddaa
/-
A number's form is read back.
-/
namespace Go.Proofs.Ytimlgpfcgklddaa
theorem numGo_uvn (d : Nat) : ∀ (i u : Nat) (n : Int) (rest : List Int), i + d = 9 → u < 2 ^ (64 - 7 * i) → (1 ≤ u ∨ i = 0) → numGo ((uvn u ++ rest).take (10 - i)) i n = (n + (u : Int) * 2 ^ (7 * i), ((i + (uvn u).length : Nat) : Int)) := by
  induction d with
  | zero =>
    intro i u n rest hi hu h1
    have h9 : i = 9 := by omega
    subst h9
    have hu2 : u < 2 := hu
    rw [uvn_small (by omega)]
    show numGo [(u : Int)] 9 n = _
    rw [numGo, if_neg (by omega), if_pos (by omega), if_neg (by omega), Int.emod_eq_of_lt (by omega) (by omega)]
    rfl
  | succ d ih =>
    intro i u n rest hi hu h1
    obtain ⟨t, ht⟩ : ∃ t, 10 - i = t + 1 := ⟨9 - i, by omega⟩
    by_cases h7 : 127 < u
    · rw [uvn_big h7, ht, List.cons_append, List.take_succ_cons, numGo, if_neg (by omega), if_neg (by omega)]
      have e1 : ((u % 128 + 128 : Nat) : Int) % 128 = ((u % 128 : Nat) : Int) := by omega
      have hp : 2 ^ (64 - 7 * i) = 128 * 2 ^ (64 - 7 * (i + 1)) := by
        rw [show 64 - 7 * i = 7 + (64 - 7 * (i + 1)) from by omega, Nat.pow_add]
      have h2 := ih (i + 1) (u / 128) (n + ((u % 128 : Nat) : Int) * 2 ^ (7 * i)) rest (by omega) (by rw [Nat.div_lt_iff_lt_mul (by decide), Nat.mul_comm, ← hp]; exact hu) (.inl (by omega))
      rw [show 10 - (i + 1) = t from by omega] at h2
      rw [e1, h2]
      have e2 : (2 : Int) ^ (7 * (i + 1)) = 128 * 2 ^ (7 * i) := by rw [Nat.mul_add, Int.pow_add]; omega
      rw [e2, List.length_cons]
      congr 1
      · have e3 : (u : Int) = ((u % 128 : Nat) : Int) + ((u / 128 : Nat) : Int) * 128 := by omega
        conv => rhs; rw [e3]
        rw [Int.add_mul, Int.mul_assoc, Int.add_assoc]
      · omega
    · rw [uvn_small (by omega), ht, List.cons_append, List.take_succ_cons, numGo, if_neg (by omega), if_pos (by omega), if_neg (by omega), Int.emod_eq_of_lt (by omega) (by omega)]
      rfl
theorem numF_uv {u : Int} (h0 : 0 ≤ u) (h1 : u < 18446744073709551616) (rest : List Int) : numF (uv u ++ rest) = (u, ((uv u).length : Int)) := by
  have h := numGo_uvn 9 0 u.toNat 0 rest rfl (by show u.toNat < 18446744073709551616; omega) (.inr rfl)
  unfold numF uv
  rw [h]
  congr 1
  · simp; omega
  · simp
end Go.Proofs.Ytimlgpfcgklddaa
/-
Rows of numbers are read back.
-/
namespace Go.Proofs.Ytimlgpfcgklddaa
theorem leVal_of_leB (m : Nat) : ∀ V : Nat, V < 256 ^ m → leVal (leB m V) = V := by
  induction m with
  | zero => intro V h; rw [Nat.pow_zero] at h; show 0 = V; omega
  | succ m ih =>
    intro V h
    have e : leB (m + 1) V = ((V % 256 : Nat) : Int) :: leB m (V / 256) := by
      unfold leB
      rw [List.range_succ_eq_map, List.map_cons, List.map_map, Nat.pow_zero, Nat.div_one]
      congr 1
      apply List.map_congr_left
      intro j _
      simp only [Function.comp]
      rw [Nat.pow_succ, Nat.mul_comm, ← Nat.div_div_eq_div_mul]
    rw [e, leVal, ih (V / 256) (by rw [Nat.pow_succ] at h; omega)]
    omega
theorem packN_get (wd : Nat) : ∀ (l : List Int), (∀ x ∈ l, 0 ≤ x ∧ x.toNat < 2 ^ wd) → unbitsL (packN wd l) wd l.length = l := by
  intro l h
  unfold unbitsL
  induction l with
  | nil => rfl
  | cons x r ih =>
    have hx := h x (List.mem_cons_self ..)
    have ih := ih fun y hy => h y (List.mem_cons_of_mem _ hy)
    rw [List.length_cons, List.range_succ_eq_map, List.map_cons, List.map_map, packN]
    congr 1
    · rw [Nat.mul_zero, Nat.pow_zero, Nat.div_one, Nat.add_mul_mod_self_left, Nat.mod_eq_of_lt hx.2]
      omega
    · refine Eq.trans ?_ ih
      apply List.map_congr_left
      intro i _
      simp only [Function.comp]
      rw [Nat.mul_succ, Nat.add_comm (wd * i), Nat.pow_add, ← Nat.div_div_eq_div_mul, Nat.add_mul_div_left _ _ (Nat.pow_pos (by decide)), Nat.div_eq_of_lt hx.2, Nat.zero_add]
end Go.Proofs.Ytimlgpfcgklddaa
/-
codec.Reader: what it is in memory, and the calls that read no bytes.
-/
namespace Go.Proofs.Ytimlgpfcgklddaa
open Go.RowKit
/-- A reader: bytes, the place, the error. -/
structure RSt where
  bs : List Int
  at' : Nat
  e : Int
structure RSt.ok (s : RSt) : Prop where
  le : s.at' ≤ s.bs.length
  len : s.bs.length ≤ 140737488355328
  range : ∀ x ∈ s.bs, 0 ≤ x ∧ x < 256
/-- The reader at a block. -/
structure Rdr (w : World) (R base : Nat) (s : RSt) : Prop where
  v : ∃ v, w.heap[R]? = some (.cells #[v, .int .i64 (s.at' : Int), .int .i64 s.e] 125 (0, 0)) ∧ Lx .u8 5 w base v s.bs
  ok : s.ok
theorem Rdr.lt {w : World} {R base : Nat} {s : RSt} (h : Rdr w R base s) : R < w.heap.size := by
  obtain ⟨v, h1, _⟩ := h.v
  exact (Array.getElem?_eq_some_iff.1 h1).1
theorem Rdr.grown {w w' : World} {R base : Nat} {s : RSt} (h : Rdr w R base s) {row : Option Nat} (hg : w.grownBy w' row) (hR : some R ≠ row) (hne : ∀ j, row = some j → ∀ cells, w.heap[j]? ≠ some (.cells cells 5 (0, 0))) : Rdr w' R base s := by
  obtain ⟨v, h1, h2⟩ := h.v
  refine ⟨⟨v, (hg.block R h.lt hR).trans h1, Lx.grown h2 hg (fun j hj e => ?_)⟩, h.ok⟩
  obtain ⟨cells, hc⟩ := Lax.typed h2 j hj
  exact hne j e.symm cells hc
theorem Rdr.below {w w' : World} {R base : Nat} {s : RSt} (h : Rdr w R base s) (hb : Below w.heap.size w w') : Rdr w' R base s := by
  obtain ⟨v, h1, h2⟩ := h.v
  exact ⟨⟨v, (hb.block R h.lt).trans h1, Lx.below h2 hb⟩, h.ok⟩
theorem Rdr.drew {w : World} {R base : Nat} {s : RSt} (h : Rdr w R base s) : Rdr w.drew R base s := h.below (Below.drew (Below.refl _ _))
end Go.Proofs.Ytimlgpfcgklddaa
namespace Go.Proofs.Ytimlgpfcgklddaa.P
open Go.RowKit Go.Shelf Go.Proofs.YtimlgpfcgklddaaW.PrintWords Go.Proofs.YtimlgpfcgklddaaW.PrintLast Go.Proofs.YtimlgpfcgklddaaW.PrintMore
set_option linter.unusedVariables false
set_option linter.unusedSimpArgs false
set_option maxRecDepth 100000 in
set_option maxHeartbeats 1000000 in
theorem NewReader_calls (A : Option Addr) (bs : List Int) (c : Nat) (w : World) (h : (Kd.int .u8).C w A bs.length bs) (hc : bs.length ≤ c) (hl : bs.length ≤ 140737488355328) (hr : ∀ x ∈ bs, 0 ≤ x ∧ x < 256) :
    Calls Try.prog 50 #[.slice A bs.length c] w fun e w' => ∃ R, e = .returned (.pointer (some ⟨R, 0, none⟩)) ∧ w.heap.size ≤ R ∧ Rdr w' R w.heap.size ⟨bs, 0, 0⟩ ∧ Below w.heap.size w w' := by
  have H := Aside0.mk h
  have HR := Aside0.mk hr
  clear h hr
  go_enter Try.func50, Try.ntmps50
  go_wp2_with (go_at_call 79; ((with_reducible refine (Clone_calls _ _ _ _ H.out hc hl).mono ?_)); rintro e w1 ⟨v1, rfl, ho, hb⟩; obtain ⟨A1, c1, rfl, _, _⟩ := ho.reads; have HO := Aside0.mk ho; have HB := Aside0.mk hb; clear ho hb)
  go_ret
  have h1 := HB.out.size
  exact ⟨_, rfl, h1, ⟨⟨_, blk_new w1 _, Lx.alloc HO.out _⟩, ⟨Nat.zero_le _, hl, HR.out⟩⟩, HB.out.alloc h1 _⟩
set_option maxRecDepth 100000 in
set_option maxHeartbeats 1000000 in
theorem Err_calls (R base : Nat) (s : RSt) (w : World) (h : Rdr w R base s) :
    Calls Try.prog 54 #[.pointer (some ⟨R, 0, none⟩)] w fun e w' => e = .returned (.int .i64 s.e) ∧ w' = w := by
  obtain ⟨v, h1, h2⟩ := h.v
  have hc0 := blk_cell h1 0
  have hc2 := blk_cell h1 2
  go_enter Try.func54, Try.ntmps54
  go_wp2
  go_ret
  exact ⟨rfl, rfl⟩
set_option maxRecDepth 100000 in
set_option maxHeartbeats 1000000 in
theorem Left_calls (R base : Nat) (s : RSt) (w : World) (h : Rdr w R base s) :
    Calls Try.prog 88 #[.pointer (some ⟨R, 0, none⟩)] w fun e w' => e = .returned (.int .i64 ((s.bs.length : Int) - s.at')) ∧ Below w.heap.size w w' := by
  obtain ⟨v, h1, h2⟩ := h.v
  obtain ⟨hle, hlen, _⟩ := h.ok
  obtain ⟨A, c, rfl, hc, _⟩ := h2.reads
  clear h2
  obtain ⟨bs, at0, e⟩ := s
  have hc0 := blk_cell h1 0
  have hc1 := blk_cell h1 1
  dsimp only at *
  go_enter Try.func88, Try.ntmps88
  go_wp2
  have hw : IntKind.i64.wrap ((bs.length : Int) - at0) = (bs.length : Int) - at0 := by rw [IntKind.wrap_i64]; omega
  go_still (by kernel_rfl)
  go_wp2
  go_ret
  exact ⟨rfl, Below.drew (Below.refl _ _)⟩
def rEnd (s : RSt) : RSt := if s.e = 0 ∧ s.at' < s.bs.length then { s with e := 20 } else s
theorem _root_.Go.Proofs.Ytimlgpfcgklddaa.Rdr.put2 {w : World} {R base : Nat} {s : RSt} (h : Rdr w R base s) (e : Int) : Rdr (w.setCell ⟨R, 2, none⟩ (.int .i64 e)) R base { s with e := e } := by
  obtain ⟨v, h1, h2⟩ := h.v
  refine ⟨⟨v, blk_put h1 2 _ rfl, Lx.far (p := ⟨R, 2, none⟩) h2 (fun j hj ej => ?_) _⟩, ⟨h.ok.le, h.ok.len, h.ok.range⟩⟩
  obtain ⟨cells, hc⟩ := Lax.typed h2 j hj
  rw [ej] at hc
  rw [show (Addr.block ⟨R, 2, none⟩) = R from rfl, h1] at hc
  injection hc with hc
  injection hc with _ hc
  exact absurd hc (by decide)
theorem _root_.Go.Proofs.Ytimlgpfcgklddaa.Rdr.put1 {w : World} {R base : Nat} {s : RSt} (h : Rdr w R base s) (n : Nat) (hn : n ≤ s.bs.length) : Rdr (w.setCell ⟨R, 1, none⟩ (.int .i64 (n : Int))) R base { s with at' := n } := by
  obtain ⟨v, h1, h2⟩ := h.v
  refine ⟨⟨v, blk_put h1 1 _ rfl, Lx.far (p := ⟨R, 1, none⟩) h2 (fun j hj ej => ?_) _⟩, ⟨hn, h.ok.len, h.ok.range⟩⟩
  obtain ⟨cells, hc⟩ := Lax.typed h2 j hj
  rw [ej] at hc
  rw [show (Addr.block ⟨R, 1, none⟩) = R from rfl, h1] at hc
  injection hc with hc
  injection hc with _ hc
  exact absurd hc (by decide)
theorem grownBy_set (w : World) (R i : Nat) (u : Value) : w.grownBy (w.setCell ⟨R, i, none⟩ u) (some R) :=
  ⟨rfl, rfl, rfl, by simp [World.setCell], fun k _ hne => Below.heap_setCell w _ _ k (fun e => hne (by rw [e]))⟩
theorem below_set {w w1 : World} (h : Below w.heap.size w w1) (R i : Nat) (u : Value) : w.grownBy (w1.setCell ⟨R, i, none⟩ u) (some R) :=
  ⟨h.os, h.tape, h.output, by have := h.size; simp [World.setCell]; exact this, fun k hk hne => (Below.heap_setCell w1 _ _ k (fun e => hne (by rw [e]))).trans (h.block k hk)⟩
set_option maxRecDepth 100000 in
set_option maxHeartbeats 1000000 in
theorem End_calls (R base : Nat) (s : RSt) (w : World) (h : Rdr w R base s) :
    Calls Try.prog 55 #[.pointer (some ⟨R, 0, none⟩)] w fun e w' => e = .returned (.int .i64 (rEnd s).e) ∧ Rdr w' R base (rEnd s) ∧ w.grownBy w' (some R) := by
  obtain ⟨v, h1, h2⟩ := h.v
  have hle := h.ok.le
  have HH := Aside0.mk h
  have hc0 := blk_cell h1 0
  have hc1 := blk_cell h1 1
  have hc2 := blk_cell h1 2
  have hf2 := blk_frozen h1 2
  clear h h2
  obtain ⟨bs, at0, e0⟩ := s
  dsimp only at *
  have HB1 := Aside0.mk h1
  by_cases he : e0 = 0
  · subst he
    by_cases hlt : at0 < bs.length
    · have hr : rEnd ⟨bs, at0, 0⟩ = ⟨bs, at0, 20⟩ := if_pos ⟨rfl, hlt⟩
      rw [hr]
      have hlt2 : 0 < (bs.length : Int) - at0 := by omega
      go_enter Try.func55, Try.ntmps55
      go_wp2_with (first | (go_at_call 88; ((with_reducible refine (Left_calls _ _ _ _ HH.out).mono ?_)); rintro e w1 ⟨rfl, hb⟩; have HH1 := Aside0.mk (HH.out.below hb); have hx1 := (hb.block _ (blk_lt HB1.out)).trans HB1.out; have hc21 := blk_cell hx1 2; have hf21 := blk_frozen hx1 2; have HB2 := Aside0.mk hb; clear hb hx1) | (go_at_call 54; ((with_reducible refine (Err_calls R base ⟨bs, at0, 20⟩ _ (HH1.out.put2 20)).mono ?_)); rintro e w2 ⟨rfl, rfl⟩))
      go_ret
      exact ⟨rfl, HH1.out.put2 20, below_set HB2.out R 2 _⟩
    · have hr : rEnd ⟨bs, at0, 0⟩ = ⟨bs, at0, 0⟩ := if_neg (fun h => hlt h.2)
      rw [hr]
      have hlt2 : (bs.length : Int) - at0 ≤ 0 := by omega
      go_enter Try.func55, Try.ntmps55
      go_wp2_with (first | (go_at_call 88; ((with_reducible refine (Left_calls _ _ _ _ HH.out).mono ?_)); rintro e w1 ⟨rfl, hb⟩; have HH1 := Aside0.mk (HH.out.below hb); have hx1 := (hb.block _ (blk_lt HB1.out)).trans HB1.out; have hc21 := blk_cell hx1 2; have hf21 := blk_frozen hx1 2; have HB2 := Aside0.mk hb; clear hb hx1) | (go_at_call 54; ((with_reducible refine (Err_calls R base _ _ HH1.out).mono ?_)); rintro e w2 ⟨rfl, rfl⟩))
      go_ret
      exact ⟨rfl, HH1.out, grown_of_below HB2.out _⟩
  · have hr : rEnd ⟨bs, at0, e0⟩ = ⟨bs, at0, e0⟩ := if_neg (fun h => he h.1)
    rw [hr]
    go_enter Try.func55, Try.ntmps55
    go_wp2_with (go_at_call 54; ((with_reducible refine (Err_calls R base _ _ HH.out).mono ?_)); rintro e w2 ⟨rfl, rfl⟩)
    go_ret
    exact ⟨rfl, HH.out, grown_of_below (Below.refl _ _) _⟩
end Go.Proofs.Ytimlgpfcgklddaa.P
/-
codec.Reader.Size.
-/
namespace Go.Proofs.Ytimlgpfcgklddaa
open Go.RowKit
/-- A size at the head of bytes. -/
def sizeF (bs : List Int) (most : Int) : Int × Int := if (numF bs).2 < 0 ∨ most < 0 ∨ (numF bs).1 > most then (0, -1) else numF bs
/-- What a call that takes x of n bytes (below 0: an error) answers and leaves. -/
def took (s : RSt) (r : Int × Int) : Int × RSt := if s.e ≠ 0 then (0, s) else if r.2 < 0 then (0, { s with e := 20 }) else (r.1, { s with at' := s.at' + r.2.toNat })
def rSize (s : RSt) (most : Int) : Int × RSt := took s (sizeF (s.bs.drop s.at') most)
theorem numGo_range : ∀ (l : List Int) (i : Nat) (n : Int), (∀ x ∈ l, 0 ≤ x ∧ x < 256) → i + l.length ≤ 10 → 0 ≤ n → n < 2 ^ (7 * i) → 0 ≤ (numGo l i n).1 ∧ (numGo l i n).1 < 18446744073709551616 ∧ -1 ≤ (numGo l i n).2 ∧ (numGo l i n).2 ≤ i + l.length
  | [], i, n, _, _, _, _ => by simp only [numGo]; omega
  | c :: r, i, n, h, hl, h0, h1 => by
    have hc := h c (List.mem_cons_self ..)
    rw [List.length_cons] at hl ⊢
    have h2 : (2 : Int) ^ (7 * (i + 1)) = 128 * 2 ^ (7 * i) := by rw [Nat.mul_add, Int.pow_add]; omega
    have hp := pow7 (i := i) (by omega)
    have hq : (0 : Int) < 2 ^ (7 * i) := Int.lt_of_le_of_lt h0 h1
    have h3 : 0 ≤ c % 128 * 2 ^ (7 * i) := Int.mul_nonneg (by omega) (by omega)
    have h4 : c % 128 * 2 ^ (7 * i) ≤ 127 * 2 ^ (7 * i) := Int.mul_le_mul_of_nonneg_right (by omega) (by omega)
    rw [numGo]
    split
    · refine ⟨?_, ?_, ?_, ?_⟩ <;> simp only <;> omega
    · rename_i hbig
      split
      · split
        · refine ⟨?_, ?_, ?_, ?_⟩ <;> simp only <;> omega
        · have hlt : n + c % 128 * 2 ^ (7 * i) < 18446744073709551616 := by
            by_cases h9 : i = 9
            · have : c % 128 ≤ 1 := by omega
              subst h9
              have e : (2 : Int) ^ (7 * 9) = 9223372036854775808 := rfl
              rw [e] at h1 ⊢
              omega
            · have := hp.2 (by omega)
              have e : (2 : Int) ^ 56 = 72057594037927936 := rfl
              omega
          refine ⟨?_, ?_, ?_, ?_⟩ <;> simp only <;> omega
      · have := numGo_range r (i + 1) (n + c % 128 * 2 ^ (7 * i)) (fun x hx => h x (List.mem_cons_of_mem _ hx)) (by omega) (by omega) (by omega)
        refine ⟨this.1, this.2.1, this.2.2.1, ?_⟩
        have := this.2.2.2
        omega
theorem numF_range {bs : List Int} (h : ∀ x ∈ bs, 0 ≤ x ∧ x < 256) : 0 ≤ (numF bs).1 ∧ (numF bs).1 < 18446744073709551616 ∧ -1 ≤ (numF bs).2 ∧ (numF bs).2 ≤ bs.length := by
  have h1 := numGo_range (bs.take 10) 0 0 (fun x hx => h x (List.mem_of_mem_take hx)) (by rw [List.length_take]; omega) (by omega) (by decide)
  refine ⟨h1.1, h1.2.1, h1.2.2.1, ?_⟩
  have := h1.2.2.2
  rw [List.length_take] at this
  unfold numF
  omega
end Go.Proofs.Ytimlgpfcgklddaa
namespace Go.Proofs.Ytimlgpfcgklddaa.P
open Go.RowKit Go.Shelf Go.Proofs.YtimlgpfcgklddaaW.PrintWords Go.Proofs.YtimlgpfcgklddaaW.PrintLast Go.Proofs.YtimlgpfcgklddaaW.PrintMore
set_option linter.unusedVariables false
set_option linter.unusedSimpArgs false
theorem C_from {w : World} {A : Option Addr} {bs : List Int} {c : Nat} {k : IntKind} (h : (Kd.int k).C w A bs.length bs) (hc : bs.length ≤ c) (at0 : Nat) (hle : at0 ≤ bs.length) :
    (Kd.int k).C w (if c = at0 then A else Option.map (fun x => x.add at0) A) (bs.drop at0).length (bs.drop at0) := by
  by_cases h0 : (bs.drop at0).length = 0
  · have e : bs.drop at0 = [] := List.eq_nil_of_length_eq_zero h0
    rw [e]
    exact ⟨rfl, by simp, fun hp => absurd hp (by simp)⟩
  · rw [List.length_drop] at h0
    rw [if_neg (by omega)]
    obtain ⟨ad, e, _⟩ := h.2.2 (by omega)
    subst e
    have h1 := C_cut h at0 (bs.length - at0) (by omega)
    rw [List.take_of_length_le (by rw [List.length_drop]; omega)] at h1
    rw [List.length_drop]
    have e2 : ad.add (at0 * (Kd.int k).sz) = ad.add at0 := by
      show ad.add (at0 * 1) = _
      rw [Nat.mul_one]
    rw [e2] at h1
    exact h1
set_option maxRecDepth 100000 in
set_option maxHeartbeats 1000000 in
theorem Size1_calls (A : Option Addr) (bs : List Int) (c : Nat) (B1 B2 : Nat) (rv : Value) (most : Int) (w : World) (h : (Kd.int .u8).C w A bs.length bs) (hc : bs.length ≤ c) (hl : bs.length ≤ 140737488355328) (hr : ∀ x ∈ bs, 0 ≤ x ∧ x < 256) (h1 : w.cell? ⟨B1, 0, none⟩ = some rv) (h2 : w.cell? ⟨B2, 0, none⟩ = some (.int .i64 most)) (hm : most < 9223372036854775808) :
    Calls Try.prog 81 #[.slice A bs.length c, .pointer (some ⟨B1, 0, none⟩), .pointer (some ⟨B2, 0, none⟩)] w fun e w' => e = .returned (.tuple #[.int .i64 (sizeF bs most).1, .int .i64 (sizeF bs most).2]) ∧ w' = w := by
  have H := Aside0.mk h
  have HR := Aside0.mk hr
  have hn := numF_range hr
  obtain ⟨u, n, hun⟩ : ∃ u n, numF bs = (u, n) := ⟨_, _, rfl⟩
  have HN := number_calls rv A bs c w h hc hl hr
  unfold sizeF
  rw [hun] at hn HN ⊢
  dsimp only at hn HN ⊢
  have HU := Aside0.mk HN
  clear h hr hun HN
  obtain ⟨hn0, hn1, hn2, hn3⟩ := hn
  by_cases hneg : n < 0
  · rw [if_pos (.inl hneg)]
    go_enter Try.func81, Try.ntmps81
    go_wp2_with (go_at_call 82; ((with_reducible refine HU.out.mono ?_)); rintro e w1 ⟨rfl, rfl⟩)
    go_ret2
    exact ⟨rfl, rfl⟩
  · by_cases hm0 : most < 0
    · rw [if_pos (.inr (.inl hm0))]
      go_enter Try.func81, Try.ntmps81
      go_wp2_with (go_at_call 82; ((with_reducible refine HU.out.mono ?_)); rintro e w1 ⟨rfl, rfl⟩)
      go_ret2
      exact ⟨rfl, rfl⟩
    · have hwm : IntKind.u64.wrap most = most := by rw [wrap_u64]; omega
      by_cases hgt : u > most
      · rw [if_pos (.inr (.inr hgt))]
        go_enter Try.func81, Try.ntmps81
        go_wp2_with (go_at_call 82; ((with_reducible refine HU.out.mono ?_)); rintro e w1 ⟨rfl, rfl⟩)
        go_ret2
        exact ⟨rfl, rfl⟩
      · rw [if_neg (by omega)]
        have hwu : IntKind.i64.wrap u = u := by rw [IntKind.wrap_i64]; omega
        go_enter Try.func81, Try.ntmps81
        go_wp2_with (go_at_call 82; ((with_reducible refine HU.out.mono ?_)); rintro e w1 ⟨rfl, rfl⟩)
        go_ret2
        exact ⟨rfl, rfl⟩
set_option maxRecDepth 100000 in
set_option maxHeartbeats 1000000 in
theorem takeSize_calls (R base B1 B2 : Nat) (s : RSt) (rv : Value) (most : Int) (w : World) (h : Rdr w R base s) (h1 : w.cell? ⟨B1, 0, none⟩ = some rv) (h2 : w.cell? ⟨B2, 0, none⟩ = some (.int .i64 most)) (hm : most < 9223372036854775808) :
    Calls Try.prog 80 #[.pointer (some ⟨R, 0, none⟩), .func (.func 81) #[] #[.pointer (some ⟨B1, 0, none⟩), .pointer (some ⟨B2, 0, none⟩)]] w fun e w' => e = .returned (.int .i64 (rSize s most).1) ∧ Rdr w' R base (rSize s most).2 ∧ w.grownBy w' (some R) := by
  have HH := Aside0.mk h
  obtain ⟨v, hb, hx⟩ := h.v
  obtain ⟨hle, hlen, hrange⟩ := h.ok
  have HR := Aside0.mk hrange
  obtain ⟨bs, at0, e0⟩ := s
  dsimp only at *
  have hc0 := blk_cell hb 0
  have hc1 := blk_cell hb 1
  have hc2 := blk_cell hb 2
  have hf1 := blk_frozen hb 1
  have hf2 := blk_frozen hb 2
  unfold rSize took
  dsimp only
  clear h
  by_cases he : e0 = 0
  · subst he
    rw [if_neg (by decide)]
    obtain ⟨A, c, rfl, hc, hC⟩ := hx.reads
    have HX := Aside0.mk hx
    have H1 := Aside0.mk h1
    have H2 := Aside0.mk h2
    clear hx h1 h2 hb hrange
    have hS := Size1_calls (if c = at0 then A else Option.map (fun x => x.add at0) A) (bs.drop at0) (c - at0) B1 B2 rv most w.drew (Kd.C_drew (C_from hC hc at0 hle)) (by rw [List.length_drop]; omega) (by rw [List.length_drop]; omega) (fun x hx => HR.out x (List.mem_of_mem_drop hx)) H1.out H2.out hm
    have hr := numF_range (bs := bs.drop at0) (fun x hx => HR.out x (List.mem_of_mem_drop hx))
    rw [List.length_drop] at hS hr
    obtain ⟨x, n, hxn⟩ : ∃ x n, sizeF (bs.drop at0) most = (x, n) := ⟨_, _, rfl⟩
    have hr2 : -1 ≤ n ∧ n ≤ ((bs.length - at0 : Nat) : Int) := by
      unfold sizeF at hxn
      split at hxn
      · injection hxn with e1 e2; subst e2; omega
      · rw [hxn] at hr; exact hr.2.2
    rw [hxn] at hS ⊢
    dsimp only at hS ⊢
    have HS := Aside0.mk hS
    clear hS hr hxn hC
    obtain ⟨hn0, hn1⟩ := hr2
    by_cases hneg : n < 0
    · rw [if_pos hneg]
      go_enter Try.func80, Try.ntmps80
      go_wp2
      refine wp_region_still_lit (by kernel_rfl) (by kernel_rfl) ?_
      repeat still_step
      still_call HS.out
      repeat still_step
      refine wpStill_nil ?_
      go_wp2
      all_goals first
        | (exfalso; omega)
        | (go_ret; exact ⟨rfl, (HH.out.drew).put2 20, below_set (Below.drew (Below.refl _ _)) R 2 _⟩)
    · rw [if_neg hneg]
      have hwa : IntKind.i64.wrap ((at0 : Int) + n) = (at0 : Int) + n := by rw [IntKind.wrap_i64]; omega
      have hna : ((at0 + n.toNat : Nat) : Int) = (at0 : Int) + n := by omega
      go_enter Try.func80, Try.ntmps80
      go_wp2
      refine wp_region_still_lit (by kernel_rfl) (by kernel_rfl) ?_
      repeat still_step
      still_call HS.out
      repeat still_step
      refine wpStill_nil ?_
      have h1 := (HH.out.drew).put1 (at0 + n.toNat) (by show at0 + n.toNat ≤ bs.length; omega)
      rw [hna] at h1
      have HP := Aside0.mk h1
      clear h1
      go_wp2
      all_goals go_ret
      all_goals exact ⟨rfl, HP.out, below_set (Below.drew (Below.refl _ _)) R 1 _⟩
  · rw [if_pos he]
    clear hx h1 h2 hb hrange
    go_enter Try.func80, Try.ntmps80
    go_wp2
    go_ret
    exact ⟨rfl, HH.out, grown_of_below (Below.refl _ _) _⟩
theorem grown_after {w w1 w2 : World} {row : Option Nat} (h : Below w.heap.size w w1) (hg : w1.grownBy w2 row) : w.grownBy w2 row :=
  ⟨hg.os.trans h.os, hg.tape.trans h.tape, hg.output.trans h.output, Nat.le_trans h.size hg.size, fun k hk hne => (hg.block k (Nat.lt_of_lt_of_le hk h.size) hne).trans (h.block k hk)⟩
theorem rSize_bs (s : RSt) (most : Int) : (rSize s most).2.bs = s.bs := by
  unfold rSize took
  split
  · rfl
  · split <;> rfl
set_option maxRecDepth 100000 in
set_option maxHeartbeats 1000000 in
theorem Size_calls (R base : Nat) (s : RSt) (most : Int) (w : World) (h : Rdr w R base s) (hm : most < 9223372036854775808) :
    Calls Try.prog 51 #[.pointer (some ⟨R, 0, none⟩), .int .i64 most] w fun e w' => e = .returned (.int .i64 (rSize s most).1) ∧ Rdr w' R base (rSize s most).2 ∧ w.grownBy w' (some R) := by
  have HH := Aside0.mk h
  clear h
  have HB : Aside0 (Below w.heap.size w ((w.alloc (.cells #[.pointer (some ⟨R, 0, none⟩)] 88)).alloc (.cells #[.int .i64 most] 3))) := ⟨((Below.refl _ w).alloc (Nat.le_refl _) _).alloc (by simp) _⟩
  have HC1 : Aside0 (((w.alloc (.cells #[.pointer (some ⟨R, 0, none⟩)] 88)).alloc (.cells #[.int .i64 most] 3)).cell? ⟨w.heap.size, 0, none⟩ = some (.pointer (some ⟨R, 0, none⟩))) := ⟨blk_cell (blk_alloc (blk_new w (.cells #[.pointer (some ⟨R, 0, none⟩)] 88)) (.cells #[.int .i64 most] 3)) 0⟩
  have HC2 : Aside0 (((w.alloc (.cells #[.pointer (some ⟨R, 0, none⟩)] 88)).alloc (.cells #[.int .i64 most] 3)).cell? ⟨w.heap.size + 1, 0, none⟩ = some (.int .i64 most)) := ⟨by
    have := blk_cell (blk_new (w.alloc (.cells #[.pointer (some ⟨R, 0, none⟩)] 88)) (.cells #[.int .i64 most] 3)) 0
    rwa [World.size_alloc] at this⟩
  go_enter Try.func51, Try.ntmps51
  go_wp2_with (go_at_call 80; ((with_reducible refine (takeSize_calls R base w.heap.size (w.heap.size + 1) s _ most _ (HH.out.below HB.out) HC1.out HC2.out hm).mono ?_)); rintro e w2 ⟨rfl, hr2, hg2⟩; have HR2 := Aside0.mk hr2; have HG2 := Aside0.mk hg2; clear hr2 hg2)
  go_ret
  exact ⟨rfl, HR2.out, grown_after HB.out HG2.out⟩
end Go.Proofs.Ytimlgpfcgklddaa.P
/-
codec.Reader.Int.
-/
namespace Go.Proofs.Ytimlgpfcgklddaa
open Go.RowKit
def unz (u : Int) : Int := if u % 2 = 0 then u / 2 else -(u / 2) - 1
def rNum (s : RSt) : Int × RSt := took s (numF (s.bs.drop s.at'))
def rInt (s : RSt) : Int × RSt := (unz (rNum s).1, (rNum s).2)
theorem took_range {s : RSt} {r : Int × Int} (h0 : 0 ≤ r.1) (h1 : r.1 < 18446744073709551616) : 0 ≤ (took s r).1 ∧ (took s r).1 < 18446744073709551616 := by
  unfold took
  split
  · exact ⟨by simp, by simp⟩
  · split
    · exact ⟨by simp, by simp⟩
    · exact ⟨h0, h1⟩
theorem xor_i64_zero {a : Int} (h0 : 0 ≤ a) (h1 : a < 9223372036854775808) : bits .xor .i64 a 0 = a := by
  obtain ⟨m, rfl⟩ := Int.eq_ofNat_of_zero_le h0
  have ha : m % 2 ^ IntKind.i64.bits = m := Nat.mod_eq_of_lt (by show m < 2 ^ 64; omega)
  have e0 : BitVec.ofInt IntKind.i64.bits 0 = 0#(IntKind.i64.bits) := rfl
  simp only [bits, BitVec.ofInt_natCast, e0, BitVec.xor_zero, BitVec.toNat_ofNat, ha]
  rw [IntKind.wrap_i64]
  omega
theorem xor_i64_ones {a : Int} (h0 : 0 ≤ a) (h1 : a < 9223372036854775808) : bits .xor .i64 a (-1) = -a - 1 := by
  obtain ⟨m, rfl⟩ := Int.eq_ofNat_of_zero_le h0
  have ha : m % 2 ^ 64 = m := Nat.mod_eq_of_lt (by omega)
  have e1 : BitVec.ofInt 64 (-1) = BitVec.allOnes 64 := by decide
  have e2 : (BitVec.ofNat 64 m ^^^ BitVec.allOnes 64).toNat = 18446744073709551615 - m := by
    rw [BitVec.xor_allOnes, BitVec.toNat_not, BitVec.toNat_ofNat, ha]
  have e3 : bits .xor .i64 (m : Int) (-1) = IntKind.i64.wrap (((BitVec.ofInt 64 (m : Int) ^^^ BitVec.ofInt 64 (-1)).toNat : Nat) : Int) := rfl
  rw [e3, e1, BitVec.ofInt_natCast, e2, IntKind.wrap_i64]
  omega
theorem and1_u64 {u : Int} (h0 : 0 ≤ u) (h1 : u < 18446744073709551616) : bits .and .u64 u 1 = u % 2 :=
  bits_mask .u64 64 (Nat.le_refl _) (fun n h0 h1 => by rw [wrap_u64]; omega) 1 (by omega) u h0 (by omega)
theorem unz_eq {u : Int} (h0 : 0 ≤ u) (h1 : u < 18446744073709551616) : bits .xor .i64 (u / 2) (-(u % 2)) = unz u := by
  unfold unz
  split
  · rename_i h
    rw [h]
    exact xor_i64_zero (by omega) (by omega)
  · have : u % 2 = 1 := by omega
    rw [this]
    exact xor_i64_ones (by omega) (by omega)
end Go.Proofs.Ytimlgpfcgklddaa
namespace Go.Proofs.Ytimlgpfcgklddaa.P
open Go.RowKit Go.Shelf Go.Proofs.YtimlgpfcgklddaaW.PrintWords Go.Proofs.YtimlgpfcgklddaaW.PrintLast Go.Proofs.YtimlgpfcgklddaaW.PrintMore
set_option linter.unusedVariables false
set_option linter.unusedSimpArgs false
set_option maxRecDepth 100000 in
set_option maxHeartbeats 1000000 in
theorem takeNum_calls (R base : Nat) (s : RSt) (rv : Value) (w : World) (h : Rdr w R base s) :
    Calls Try.prog 128 #[.pointer (some ⟨R, 0, none⟩), .func (.func 82) #[rv] #[]] w fun e w' => e = .returned (.int .u64 (rNum s).1) ∧ Rdr w' R base (rNum s).2 ∧ w.grownBy w' (some R) := by
  have HH := Aside0.mk h
  obtain ⟨v, hb, hx⟩ := h.v
  obtain ⟨hle, hlen, hrange⟩ := h.ok
  have HR := Aside0.mk hrange
  obtain ⟨bs, at0, e0⟩ := s
  dsimp only at *
  have hc0 := blk_cell hb 0
  have hc1 := blk_cell hb 1
  have hc2 := blk_cell hb 2
  have hf1 := blk_frozen hb 1
  have hf2 := blk_frozen hb 2
  unfold rNum took
  dsimp only
  clear h
  by_cases he : e0 = 0
  · subst he
    rw [if_neg (by decide)]
    obtain ⟨A, c, rfl, hc, hC⟩ := hx.reads
    clear hx hb hrange
    have hS := number_calls rv (if c = at0 then A else Option.map (fun x => x.add at0) A) (bs.drop at0) (c - at0) w.drew (Kd.C_drew (C_from hC hc at0 hle)) (by rw [List.length_drop]; omega) (by rw [List.length_drop]; omega) (fun x hx => HR.out x (List.mem_of_mem_drop hx))
    have hr := numF_range (bs := bs.drop at0) (fun x hx => HR.out x (List.mem_of_mem_drop hx))
    rw [List.length_drop] at hS hr
    obtain ⟨x, n, hxn⟩ : ∃ x n, numF (bs.drop at0) = (x, n) := ⟨_, _, rfl⟩
    rw [hxn] at hS hr ⊢
    dsimp only at hS hr ⊢
    have HS := Aside0.mk hS
    clear hS hxn hC
    obtain ⟨_, _, hn0, hn1⟩ := hr
    by_cases hneg : n < 0
    · rw [if_pos hneg]
      go_enter Try.func128, Try.ntmps128
      go_wp2
      refine wp_region_still_lit (by kernel_rfl) (by kernel_rfl) ?_
      repeat still_step
      still_call HS.out
      repeat still_step
      refine wpStill_nil ?_
      go_wp2
      all_goals go_ret
      all_goals exact ⟨rfl, (HH.out.drew).put2 20, below_set (Below.drew (Below.refl _ _)) R 2 _⟩
    · rw [if_neg hneg]
      have hwa : IntKind.i64.wrap ((at0 : Int) + n) = (at0 : Int) + n := by rw [IntKind.wrap_i64]; omega
      have hna : ((at0 + n.toNat : Nat) : Int) = (at0 : Int) + n := by omega
      go_enter Try.func128, Try.ntmps128
      go_wp2
      refine wp_region_still_lit (by kernel_rfl) (by kernel_rfl) ?_
      repeat still_step
      still_call HS.out
      repeat still_step
      refine wpStill_nil ?_
      have h1 := (HH.out.drew).put1 (at0 + n.toNat) (by show at0 + n.toNat ≤ bs.length; omega)
      rw [hna] at h1
      have HP := Aside0.mk h1
      clear h1
      go_wp2
      all_goals go_ret
      all_goals exact ⟨rfl, HP.out, below_set (Below.drew (Below.refl _ _)) R 1 _⟩
  · rw [if_pos he]
    clear hx hb hrange
    go_enter Try.func128, Try.ntmps128
    go_wp2
    go_ret
    exact ⟨rfl, HH.out, grown_of_below (Below.refl _ _) _⟩
set_option maxRecDepth 100000 in
set_option maxHeartbeats 1000000 in
theorem Int_calls (R base : Nat) (s : RSt) (w : World) (h : Rdr w R base s) :
    Calls Try.prog 108 #[.pointer (some ⟨R, 0, none⟩)] w fun e w' => e = .returned (.int .i64 (rInt s).1) ∧ Rdr w' R base (rInt s).2 ∧ w.grownBy w' (some R) := by
  have HS := Aside0.mk (takeNum_calls R base s (.pointer (some ⟨R, 0, none⟩)) w h)
  have hr := numF_range (bs := s.bs.drop s.at') (fun x hx => h.ok.range x (List.mem_of_mem_drop hx))
  have hr2 : 0 ≤ (rNum s).1 ∧ (rNum s).1 < 18446744073709551616 := took_range hr.1 hr.2.1
  unfold rInt
  obtain ⟨u, st, hu⟩ : ∃ u st, rNum s = (u, st) := ⟨_, _, rfl⟩
  rw [hu] at hr2 HS ⊢
  dsimp only at hr2 HS ⊢
  obtain ⟨hu0, hu1⟩ := hr2
  clear h hr hu
  have hw1 : IntKind.i64.wrap (u / 2) = u / 2 := by rw [IntKind.wrap_i64]; omega
  have hw2 : bits .and .u64 u 1 = u % 2 := and1_u64 hu0 hu1
  have hw3 : IntKind.i64.wrap (u % 2) = u % 2 := by rw [IntKind.wrap_i64]; omega
  have hw4 : IntKind.i64.wrap (-(u % 2)) = -(u % 2) := by rw [IntKind.wrap_i64]; omega
  go_enter Try.func108, Try.ntmps108
  go_wp2_with (go_at_call 128; ((with_reducible refine HS.out.mono ?_)); rintro e w2 ⟨rfl, hr2, hg2⟩; have HR2 := Aside0.mk hr2; have HG2 := Aside0.mk hg2; clear hr2 hg2)
  have hz := unz_eq hu0 hu1
  go_ret
  exact ⟨by rw [← hz]; rfl, HR2.out, HG2.out⟩
end Go.Proofs.Ytimlgpfcgklddaa.P
/-
codec.Reader.Bytes.
-/
namespace Go.Proofs.Ytimlgpfcgklddaa
open Go.RowKit
/-- So many bytes at the head. -/
def bytesF (bs : List Int) (n : Int) : List Int × Int := if n < 0 ∨ n > bs.length then ([], -1) else (bs.take n.toNat, n)
def rBytes (s : RSt) (n : Int) : List Int × RSt := if s.e ≠ 0 then ([], s) else if n < 0 ∨ n > (s.bs.length : Int) - s.at' then ([], { s with e := 20 }) else ((s.bs.drop s.at').take n.toNat, { s with at' := s.at' + n.toNat })
end Go.Proofs.Ytimlgpfcgklddaa
namespace Go.Proofs.Ytimlgpfcgklddaa.P
open Go.RowKit Go.Shelf Go.Proofs.YtimlgpfcgklddaaW.PrintWords Go.Proofs.YtimlgpfcgklddaaW.PrintLast Go.Proofs.YtimlgpfcgklddaaW.PrintMore
set_option linter.unusedVariables false
set_option linter.unusedSimpArgs false
theorem C_take {w : World} {A : Option Addr} {bs : List Int} {k : IntKind} (h : (Kd.int k).C w A bs.length bs) (n : Nat) (hn : n ≤ bs.length) : (Kd.int k).C w A (bs.take n).length (bs.take n) := by
  rcases A with _ | ad
  · have h0 : bs.length = 0 := by
      rcases Nat.eq_zero_or_pos bs.length with h0 | h0
      · exact h0
      · obtain ⟨ad, e, _⟩ := h.2.2 h0
        cases e
    have e : bs = [] := List.eq_nil_of_length_eq_zero h0
    subst e
    rw [List.take_nil]
    exact h
  · have h1 := C_cut h 0 n (by omega)
    rw [List.drop_zero, Nat.zero_mul] at h1
    rw [List.length_take, Nat.min_eq_left hn]
    exact h1
set_option maxRecDepth 100000 in
set_option maxHeartbeats 1000000 in
theorem Bytes1_no (A : Option Addr) (m c : Nat) (B1 : Nat) (n : Int) (w : World) (h1 : w.cell? ⟨B1, 0, none⟩ = some (.int .i64 n)) (hn : n < 0 ∨ n > m) :
    Calls Try.prog 84 #[.slice A m c, .pointer (some ⟨B1, 0, none⟩)] w fun e w' => e = .returned (.tuple #[.slice none 0 0, .int .i64 (-1)]) ∧ w' = w := by
  by_cases h0 : n < 0
  · go_enter Try.func84, Try.ntmps84
    go_wp2
    go_ret2
    exact ⟨rfl, rfl⟩
  · have hgt : n > m := by omega
    go_enter Try.func84, Try.ntmps84
    go_wp2
    go_ret2
    exact ⟨rfl, rfl⟩
set_option maxRecDepth 100000 in
set_option maxHeartbeats 1000000 in
theorem Bytes1_yes (A : Option Addr) (bs : List Int) (c : Nat) (B1 : Nat) (n : Nat) (w : World) (h : (Kd.int .u8).C w A bs.length bs) (hc : bs.length ≤ c) (hl : bs.length ≤ 140737488355328) (h1 : w.cell? ⟨B1, 0, none⟩ = some (.int .i64 n)) (hB : B1 < w.heap.size) (hn : n ≤ bs.length) :
    Calls Try.prog 84 #[.slice A bs.length c, .pointer (some ⟨B1, 0, none⟩)] w fun e w' => ∃ v, e = .returned (.tuple #[v, .int .i64 n]) ∧ Lx .u8 5 w' w.heap.size v (bs.take n) ∧ Below w.heap.size w w' := by
  have HT := Aside0.mk (C_take h n hn)
  have hlt : (bs.take n).length = n := by rw [List.length_take]; omega
  obtain ⟨xs, hxs⟩ : ∃ xs, bs.take n = xs := ⟨_, rfl⟩
  rw [hxs] at HT hlt ⊢
  subst hlt
  clear h hxs
  have H1 := Aside0.mk h1
  go_enter Try.func84, Try.ntmps84
  go_wp2
  go_region_with (first | (go_at_call 79; ((with_reducible refine (Clone_calls A xs c _ (Kd.C_drew HT.out) (by omega) (by omega)).mono ?_)); rintro e w1 ⟨v1, rfl, ho, hb⟩; obtain ⟨A1, c1, rfl, hc1, hC1⟩ := ho.reads; have HM1 := Aside0.mk (Kd.C_max hC1); have HO := Aside0.mk ho; have hk1 : w1.cell? ⟨B1, 0, none⟩ = some (.int .i64 (xs.length : Int)) := (hb.cell (show (⟨B1, 0, none⟩ : Addr).block < w.drew.heap.size from hB)).trans H1.out; have HB := Aside0.mk hb; clear ho hb hC1) | (go_at_call 45; ((with_reducible refine (Clip_calls A1 xs.length c1 _ hc1 HM1.out).mono ?_)); rintro e w2 ⟨rfl, rfl⟩))
  all_goals (
    go_wp2
    go_ret2
    exact ⟨_, rfl, Lax.clip HO.out, (Below.drew (Below.refl _ w)).trans HB.out⟩)
set_option maxRecDepth 100000 in
set_option maxHeartbeats 1000000 in
theorem takeBytes_calls (R base B1 : Nat) (s : RSt) (n : Int) (w : World) (h : Rdr w R base s) (h1 : w.cell? ⟨B1, 0, none⟩ = some (.int .i64 n)) (hB : B1 < w.heap.size) :
    Calls Try.prog 83 #[.pointer (some ⟨R, 0, none⟩), .func (.func 84) #[] #[.pointer (some ⟨B1, 0, none⟩)]] w fun e w' => ∃ v, e = .returned v ∧ Lx .u8 5 w' w.heap.size v (rBytes s n).1 ∧ Rdr w' R base (rBytes s n).2 ∧ w.grownBy w' (some R) := by
  have HH := Aside0.mk h
  obtain ⟨v, hb, hx⟩ := h.v
  obtain ⟨hle, hlen, hrange⟩ := h.ok
  have HR := Aside0.mk hrange
  obtain ⟨bs, at0, e0⟩ := s
  dsimp only at *
  have hc0 := blk_cell hb 0
  have hc1 := blk_cell hb 1
  have hc2 := blk_cell hb 2
  have hf1 := blk_frozen hb 1
  have hf2 := blk_frozen hb 2
  unfold rBytes
  dsimp only
  have HBK := Aside0.mk hb
  clear h
  by_cases he : e0 = 0
  · subst he
    rw [if_neg (by decide)]
    obtain ⟨A, c, rfl, hc, hC⟩ := hx.reads
    have H1 := Aside0.mk h1
    clear hx hb hrange h1
    by_cases hbad : n < 0 ∨ n > (bs.length : Int) - at0
    · rw [if_pos hbad]
      have HS := Aside0.mk (Bytes1_no (if c = at0 then A else Option.map (fun x => x.add at0) A) (bs.length - at0) (c - at0) B1 n w.drew H1.out (by omega))
      clear hbad hC
      go_enter Try.func83, Try.ntmps83
      go_wp2
      refine wp_region_still_lit (by kernel_rfl) (by kernel_rfl) ?_
      repeat still_step
      still_call HS.out
      repeat still_step
      refine wpStill_nil ?_
      go_wp2
      all_goals go_ret
      all_goals exact ⟨_, rfl, Lx.nil _ _ _ _, (HH.out.drew).put2 20, below_set (Below.drew (Below.refl _ _)) R 2 _⟩
    · rw [if_neg hbad]
      obtain ⟨n, rfl⟩ := Int.eq_ofNat_of_zero_le (show 0 ≤ n by omega)
      have hS := Bytes1_yes (if c = at0 then A else Option.map (fun x => x.add at0) A) (bs.drop at0) (c - at0) B1 n w.drew (Kd.C_drew (C_from hC hc at0 hle)) (by rw [List.length_drop]; omega) (by rw [List.length_drop]; omega) H1.out hB (by rw [List.length_drop]; omega)
      rw [List.length_drop] at hS
      have hle2 : at0 + n ≤ bs.length := by omega
      obtain ⟨A', hA'⟩ : ∃ A', (if c = at0 then A else Option.map (fun x => x.add at0) A) = A' := ⟨_, rfl⟩
      rw [hA'] at hS
      simp only [Int.toNat_natCast]
      obtain ⟨xs, hxs⟩ : ∃ xs, (bs.drop at0).take n = xs := ⟨_, rfl⟩
      rw [hxs] at hS ⊢
      have HS := Aside0.mk hS
      clear hbad hC hS hxs
      have hwa : IntKind.i64.wrap ((at0 : Int) + n) = (at0 : Int) + n := by rw [IntKind.wrap_i64]; omega
      go_enter Try.func83, Try.ntmps83
      go_wp2
      go_region_with (go_at_call 84; ((with_reducible refine HS.out.mono ?_)); rintro e w1 ⟨v1, rfl, ho, hb1⟩; obtain ⟨A1, c1, rfl, hc1, _⟩ := ho.reads; have HO := Aside0.mk ho; have hx1 := (hb1.block _ (show R < w.drew.heap.size from blk_lt HBK.out)).trans (show w.drew.heap[R]? = _ from HBK.out); have hc11 := blk_cell hx1 1; have hf11 := blk_frozen hx1 1; have HH1 := Aside0.mk (HH.out.drew.below hb1); have HB := Aside0.mk ((Below.drew (Below.refl _ w)).trans hb1); clear ho hb1 hx1)
      all_goals (
        have hna : ((at0 + n : Nat) : Int) = (at0 : Int) + n := by omega
        have h1 := HH1.out.put1 (at0 + n) hle2
        rw [hna] at h1
        have HP := Aside0.mk h1
        have hRlt := blk_lt HBK.out
        have HF : Aside0 (Lx .u8 5 (w1.setCell ⟨R, 1, none⟩ (.int .i64 ((at0 : Int) + n))) w.heap.size (.slice A1 xs.length c1) xs) := ⟨Lx.far (p := ⟨R, 1, none⟩) HO.out (fun j hj => by have h2 : w.heap.size ≤ j := Lax.base_le HO.out j hj; show j ≠ R; omega) _⟩
        clear h1
        go_wp2
        all_goals go_ret
        all_goals exact ⟨_, rfl, HF.out, HP.out, below_set HB.out R 1 _⟩)
  · rw [if_pos he]
    clear hx hb hrange
    go_enter Try.func83, Try.ntmps83
    go_wp2
    go_ret
    exact ⟨_, rfl, Lx.nil _ _ _ _, HH.out, grown_of_below (Below.refl _ _) _⟩
set_option maxRecDepth 100000 in
set_option maxHeartbeats 1000000 in
theorem Bytes_calls (R base : Nat) (s : RSt) (n : Int) (w : World) (h : Rdr w R base s) :
    Calls Try.prog 52 #[.pointer (some ⟨R, 0, none⟩), .int .i64 n] w fun e w' => ∃ v, e = .returned v ∧ Lx .u8 5 w' w.heap.size v (rBytes s n).1 ∧ Rdr w' R base (rBytes s n).2 ∧ w.grownBy w' (some R) := by
  have HH := Aside0.mk h
  clear h
  have HB : Aside0 (Below w.heap.size w (w.alloc (.cells #[.int .i64 n] 3))) := ⟨(Below.refl _ w).alloc (Nat.le_refl _) _⟩
  have HC1 : Aside0 ((w.alloc (.cells #[.int .i64 n] 3)).cell? ⟨w.heap.size, 0, none⟩ = some (.int .i64 n)) := ⟨blk_cell (blk_new w (.cells #[.int .i64 n] 3)) 0⟩
  go_enter Try.func52, Try.ntmps52
  go_wp2_with (go_at_call 83; ((with_reducible refine (takeBytes_calls R base w.heap.size s n _ (HH.out.below HB.out) HC1.out (by simp)).mono ?_)); rintro e w2 ⟨v2, rfl, ho2, hr2, hg2⟩; have HO2 := Aside0.mk ho2; have HR2 := Aside0.mk hr2; have HG2 := Aside0.mk hg2; clear ho2 hr2 hg2)
  go_ret
  exact ⟨_, rfl, Lx.lower HO2.out HB.out.size, HR2.out, grown_after HB.out HG2.out⟩
end Go.Proofs.Ytimlgpfcgklddaa.P
