/-
Texts of this seat, laid together: A4, M2, A5, M3, M4.
-/
import Derived.Lib.Strings
import Derived.Lib.Slices
import Derived.Lib.Small
import Derived.Lib.Walk
import Derived.Lib.BitFns
import Derived.Laws.BitsLemmas
import Derived.WalkKit
import Derived.Test.YtimlgpfcgklddaaQB0
namespace Go.Proofs.Ytimlgpfcgklddaa.P
open Go.RowKit
set_option linter.unusedVariables false
set_option linter.unusedSimpArgs false
theorem tabF : ∀ k : Fin 256, ((Lib.len8tab[k.val]'(by have e : Lib.len8tab.size = 256 := by decide +kernel
                                                       omega)).toNat : Nat) = Lib.bitLen k.val := by decide +kernel
theorem tab_at (i : Int) (h : i.toNat < Lib.len8tab.size) (h0 : 0 ≤ i) (h1 : i < 256) : ((Lib.len8tab[i.toNat]'h).toNat : Int) = Lib.bitLen i.toNat := by
  have := tabF ⟨i.toNat, by omega⟩
  exact congrArg (Nat.cast (R := Int)) this
theorem close (x q : Int) (K : Nat) (h0 : 0 ≤ q) (h1 : q < 256) (hs : Lib.bitLen x.toNat = K + Lib.bitLen q.toNat) (hK : K ≤ 64) : wrap64 ((K : Int) + wrap64 (Lib.bitLen q.toNat : Int)) = (Lib.bitLen x.toNat : Int) := by
  have := Lib.bitLen_le8' q h0 (by omega)
  unfold wrap64
  omega
set_option maxHeartbeats 4000000 in
set_option maxRecDepth 100000 in
theorem Len64_calls (x : Int) (w : World) (h0 : 0 ≤ x) (h1 : x ≤ 18446744073709551615) :
    Calls Try.prog 127 #[.int .u64 x] w fun e w' => e = .returned (.int .i64 (Lib.bitLen x.toNat)) ∧ w' = w := by
  have hsz : Lib.len8tab.size = 256 := by kernel_rfl
  go_enter Try.func127, Try.ntmps127
  go_wp2
  all_goals (go_ret; refine ⟨congrArg Ending.returned (congrArg (Value.int IntKind.i64) ?_), rfl⟩)
  all_goals first
    | (rw [tab_at (x / 4294967296 / 65536 / 256) (by rw [hsz]; omega) (by omega) (by omega)]
       refine close x (x / 4294967296 / 65536 / 256) 56 (by omega) (by omega) ?_ (by omega)
       have e : (x / 4294967296 / 65536 / 256).toNat = x.toNat / 72057594037927936 := by omega
       have s := Lib.bitLen_shift56 x.toNat (by omega) (by omega)
       rw [e]
       omega)
    | (rw [tab_at (x / 4294967296 / 65536) (by rw [hsz]; omega) (by omega) (by omega)]
       refine close x (x / 4294967296 / 65536) 48 (by omega) (by omega) ?_ (by omega)
       have e : (x / 4294967296 / 65536).toNat = x.toNat / 281474976710656 := by omega
       have s := Lib.bitLen_shift48 x.toNat (by omega) (by omega)
       rw [e]
       omega)
    | (rw [tab_at (x / 4294967296 / 256) (by rw [hsz]; omega) (by omega) (by omega)]
       refine close x (x / 4294967296 / 256) 40 (by omega) (by omega) ?_ (by omega)
       have e : (x / 4294967296 / 256).toNat = x.toNat / 1099511627776 := by omega
       have s := Lib.bitLen_shift40 x.toNat (by omega) (by omega)
       rw [e]
       omega)
    | (rw [tab_at (x / 4294967296) (by rw [hsz]; omega) (by omega) (by omega)]
       refine close x (x / 4294967296) 32 (by omega) (by omega) ?_ (by omega)
       have e : (x / 4294967296).toNat = x.toNat / 4294967296 := by omega
       have s := Lib.bitLen_shift32 x.toNat (by omega) (by omega)
       rw [e]
       omega)
    | (rw [tab_at (x / 65536 / 256) (by rw [hsz]; omega) (by omega) (by omega)]
       refine close x (x / 65536 / 256) 24 (by omega) (by omega) ?_ (by omega)
       have e : (x / 65536 / 256).toNat = x.toNat / 16777216 := by omega
       have s := Lib.bitLen_shift24 x.toNat (by omega) (by omega)
       rw [e]
       omega)
    | (rw [tab_at (x / 65536) (by rw [hsz]; omega) (by omega) (by omega)]
       refine close x (x / 65536) 16 (by omega) (by omega) ?_ (by omega)
       have e : (x / 65536).toNat = x.toNat / 65536 := by omega
       have s := Lib.bitLen_shift16 x.toNat (by omega) (by omega)
       rw [e]
       omega)
    | (rw [tab_at (x / 256) (by rw [hsz]; omega) (by omega) (by omega)]
       refine close x (x / 256) 8 (by omega) (by omega) ?_ (by omega)
       have e : (x / 256).toNat = x.toNat / 256 := by omega
       have s := Lib.bitLen_shift8 x.toNat (by omega) (by omega)
       rw [e]
       omega)
    | (rw [tab_at x (by rw [hsz]; omega) (by omega) (by omega)]
       have l := Lib.bitLen_le8' x (by omega) (by omega)
       unfold wrap64
       omega)
end Go.Proofs.Ytimlgpfcgklddaa.P
namespace Go.Proofs.Ytimlgpfcgklddaa
open Go.RowKit
theorem wrap_u64 (n : Int) : IntKind.u64.wrap n = n % 18446744073709551616 := by simp [IntKind.wrap, IntKind.bits, IntKind.signed]
theorem bits_xor_nat (a b : Nat) (ha : a < 2 ^ 64) (hb : b < 2 ^ 64) : bits .xor .u64 a b = ((a ^^^ b : Nat) : Int) := by
  have ha' : a % 2 ^ IntKind.u64.bits = a := Nat.mod_eq_of_lt ha
  have hb' : b % 2 ^ IntKind.u64.bits = b := Nat.mod_eq_of_lt hb
  simp only [bits, BitVec.ofInt_natCast, BitVec.toNat_xor, BitVec.toNat_ofNat, ha', hb']
  have hx : a ^^^ b < 2 ^ 64 := Nat.xor_lt_two_pow ha hb
  rw [wrap_u64]
  omega
theorem xor_zero {a : Int} (h0 : 0 ≤ a) (h1 : a < 18446744073709551616) : bits .xor .u64 a 0 = a := by
  obtain ⟨m, rfl⟩ := Int.eq_ofNat_of_zero_le h0
  have := bits_xor_nat m 0 (by omega) (by omega)
  rw [Nat.xor_zero] at this
  exact this
theorem xor_ones {a : Int} (h0 : 0 ≤ a) (h1 : a < 18446744073709551616) : bits .xor .u64 a 18446744073709551615 = 18446744073709551615 - a := by
  obtain ⟨m, rfl⟩ := Int.eq_ofNat_of_zero_le h0
  have h2 := bits_xor_nat m 18446744073709551615 (by omega) (by omega)
  have h3 : m ^^^ 18446744073709551615 = 18446744073709551615 - m := by
    have e := congrArg BitVec.toNat (BitVec.xor_allOnes (x := BitVec.ofNat 64 m))
    rw [BitVec.toNat_xor, BitVec.toNat_not, BitVec.toNat_allOnes, BitVec.toNat_ofNat] at e
    have hm : m % 2 ^ 64 = m := Nat.mod_eq_of_lt (by omega)
    rw [hm] at e
    exact e
  rw [h3] at h2
  have h4 : ((18446744073709551615 - m : Nat) : Int) = 18446744073709551615 - (m : Int) := by omega
  rw [h4] at h2
  exact h2
/-- All numbers' bits together. -/
def orAll (l : List Int) : Int := l.foldl (fun a b => bits .or .u64 a b) 0
theorem orAll_snoc (l : List Int) (x : Int) : orAll (l ++ [x]) = bits .or .u64 (orAll l) x := by unfold orAll; rw [List.foldl_append]; rfl
theorem bits_or_nat (a b : Nat) (ha : a < 2 ^ 64) (hb : b < 2 ^ 64) : bits .or .u64 a b = ((a ||| b : Nat) : Int) := (bits_nat .u64 64 (Nat.le_refl _) (fun n h0 h1 => by rw [wrap_u64]; omega) a b ha hb).2
theorem orAll_range (l : List Int) (h : ∀ x ∈ l, 0 ≤ x ∧ x < 18446744073709551616) : 0 ≤ orAll l ∧ orAll l < 18446744073709551616 := by
  unfold orAll
  have : ∀ (l : List Int) (a : Int), (∀ x ∈ l, 0 ≤ x ∧ x < 18446744073709551616) → 0 ≤ a → a < 18446744073709551616 → 0 ≤ l.foldl (fun a b => bits .or .u64 a b) a ∧ l.foldl (fun a b => bits .or .u64 a b) a < 18446744073709551616 := by
    intro l
    induction l with
    | nil => intro a _ h0 h1; exact ⟨h0, h1⟩
    | cons x r ih =>
      intro a hx h0 h1
      obtain ⟨x0, x1⟩ := hx x List.mem_cons_self
      obtain ⟨m, rfl⟩ := Int.eq_ofNat_of_zero_le h0
      obtain ⟨q, rfl⟩ := Int.eq_ofNat_of_zero_le x0
      rw [List.foldl_cons, bits_or_nat m q (by omega) (by omega)]
      have h2 : m ||| q < 2 ^ 64 := Nat.or_lt_two_pow (by omega) (by omega)
      exact ih _ (fun y hy => hx y (List.mem_cons_of_mem _ hy)) (by omega) (by omega)
  exact this l 0 h (by omega) (by omega)
/-- How many bits the widest has. -/
def widthOf (l : List Int) : Nat := Lib.bitLen (orAll l).toNat
theorem take_rd (l : List Int) (k : Nat) (h : k < l.length) : l.take (k + 1) = l.take k ++ [l.getD k 0] := by
  rw [List.take_succ_eq_append_getElem h]
  congr 2
  simp [List.getD_eq_getElem?_getD, h]
end Go.Proofs.Ytimlgpfcgklddaa
namespace Go.Proofs.Ytimlgpfcgklddaa.P
open Go.RowKit Go.Proofs.YtimlgpfcgklddaaW.PrintWords Go.Proofs.YtimlgpfcgklddaaW.PrintLast Go.Proofs.YtimlgpfcgklddaaW.PrintMore
set_option linter.unusedVariables false
set_option linter.unusedSimpArgs false
set_option maxHeartbeats 1000000 in
theorem Width_calls (A : Option Addr) (l : List Int) (c : Nat) (w : World) (h : (Kd.int .u64).C w A l.length l) (hc : l.length ≤ c) (hr : ∀ x ∈ l, 0 ≤ x ∧ x < 18446744073709551616) :
    Calls Try.prog 104 #[.slice A l.length c] w fun e w' => e = .returned (.int .i64 (widthOf l)) ∧ w = w' := by
  have H := Aside0.mk h
  have HR := Aside0.mk (orAll_range l hr)
  have HM := Aside0.mk (Kd.C_max h)
  clear h hr
  go_enter Try.func104, Try.ntmps104
  go_wp2
  go_loopg [3, 8] l.length (fun kq v3 v8 w' => ∃ k : Nat, v8 = .int .i64 k ∧ Aside0 (k ≤ l.length) ∧ v3 = .int .u64 (orAll (l.take k)) ∧ Aside0 (l.length - k ≤ kq) ∧ w = w')
  case atStart => exact ⟨0, rfl, ⟨Nat.zero_le _⟩, rfl, ⟨Nat.le_refl _⟩, rfl⟩
  case round =>
    obtain ⟨k, rfl, hk, rfl, HK, rfl⟩ := hrel
    obtain ⟨s, hs⟩ : ∃ s, orAll (l.take k) = s := ⟨_, rfl⟩
    rw [hs]
    have HS := Aside0.mk hs
    clear hs
    by_cases hlt : k < l.length
    · obtain ⟨ad, rfl, hx⟩ := Kd.at_int H.out (k : Int) (by omega) (by omega)
      rw [Int.toNat_natCast] at hx
      have hm := HM.out
      have HT := Aside0.mk (take_rd l k hlt)
      go_wp2
      go_roundg (l.length - (k + 1))
      case measure => have := HK.out; omega
      case rel => exact ⟨k + 1, by first | rfl | (simp; done), ⟨hlt⟩, by rw [HT.out, orAll_snoc, HS.out]; rfl, ⟨Nat.le_refl _⟩, rfl⟩
    · have e : k = l.length := by have := hk.out; omega
      have HS2 := Aside0.mk (show orAll l = s by rw [← HS.out, e, List.take_length])
      have hge : l.length ≤ k := by omega
      clear hlt e
      have HRs : Aside0 (0 ≤ s ∧ s ≤ 18446744073709551615) := ⟨by have hr := HR.out; rw [HS2.out] at hr; omega⟩
      go_wp2_with (go_at_call 127; ((with_reducible refine (Len64_calls s _ HRs.out.1 HRs.out.2).mono ?_)); rintro e w1 ⟨rfl, rfl⟩)
      go_ret
      exact ⟨by unfold widthOf; rw [HS2.out]; rfl, rfl⟩
end Go.Proofs.Ytimlgpfcgklddaa.P
namespace Go.Proofs.Ytimlgpfcgklddaa
/-- m bytes of a great number, the least first. -/
def leB (m V : Nat) : List Int := (List.range m).map fun j => ((V / 256 ^ j % 256 : Nat) : Int)
theorem leB_length (m V : Nat) : (leB m V).length = m := by simp [leB]
theorem leB_get (m V j : Nat) (h : j < m) : (leB m V)[j]? = some ((V / 256 ^ j % 256 : Nat) : Int) := by simp [leB, h]
theorem leB_zero (m : Nat) : leB m 0 = List.replicate m 0 := by
  apply List.ext_getElem?
  intro j
  by_cases h : j < m
  · rw [leB_get _ _ _ h, List.getElem?_replicate, if_pos h]
    simp
  · rw [List.getElem?_eq_none (by rw [leB_length]; omega), List.getElem?_eq_none (by simp; omega)]
/-- The great number of some numbers of a width. -/
def packN (wd : Nat) : List Int → Nat
  | [] => 0
  | x :: r => x.toNat + 2 ^ wd * packN wd r
theorem packN_snoc (wd : Nat) (l : List Int) (x : Int) : packN wd (l ++ [x]) = packN wd l + x.toNat * 2 ^ (wd * l.length) := by
  induction l with
  | nil => simp [packN]
  | cons y r ih =>
    simp only [List.cons_append, packN, ih, List.length_cons]
    rw [show wd * (r.length + 1) = wd + wd * r.length from by rw [Nat.mul_succ]; omega, Nat.pow_add, Nat.mul_add, Nat.add_assoc]
    congr 2
    rw [← Nat.mul_assoc, ← Nat.mul_assoc, Nat.mul_comm (2 ^ wd)]
theorem packN_lt (wd : Nat) (l : List Int) (h : ∀ x ∈ l, x.toNat < 2 ^ wd) : packN wd l < 2 ^ (wd * l.length) := by
  induction l with
  | nil => simp [packN]
  | cons y r ih =>
    have h1 := h y List.mem_cons_self
    have h2 := ih fun x hx => h x (List.mem_cons_of_mem _ hx)
    simp only [packN, List.length_cons]
    rw [show wd * (r.length + 1) = wd + wd * r.length from by rw [Nat.mul_succ]; omega, Nat.pow_add]
    have h3 : packN wd r + 1 ≤ 2 ^ (wd * r.length) := h2
    have h4 : 2 ^ wd * (packN wd r + 1) ≤ 2 ^ wd * 2 ^ (wd * r.length) := Nat.mul_le_mul_left _ h3
    rw [Nat.mul_add] at h4
    omega
/-- A run of bits is laid at place a, within one byte. -/
theorem leB_add (m V c a t : Nat) (hV : V < 2 ^ a) (ht : a % 8 + t ≤ 8) (hc : c < 2 ^ t) (hm : a / 8 < m) :
    leB m (V + c * 2 ^ a) = (leB m V).set (a / 8) ((V / 256 ^ (a / 8) % 256 + c * 2 ^ (a % 8) : Nat) : Int) ∧ V / 256 ^ (a / 8) % 256 < 2 ^ (a % 8) := by
  have ha : 2 ^ a = 256 ^ (a / 8) * 2 ^ (a % 8) := by
    rw [show (256 : Nat) = 2 ^ 8 from rfl, ← Nat.pow_mul, ← Nat.pow_add]
    congr 1
    omega
  have hb : c * 2 ^ (a % 8) + 2 ^ (a % 8) ≤ 256 := by
    have h1 : (c + 1) * 2 ^ (a % 8) ≤ 2 ^ t * 2 ^ (a % 8) := Nat.mul_le_mul_right _ hc
    rw [← Nat.pow_add, Nat.add_mul, Nat.one_mul] at h1
    have h2 : 2 ^ (t + a % 8) ≤ 2 ^ 8 := Nat.pow_le_pow_right (by decide) (by omega)
    have h3 : (2 : Nat) ^ 8 = 256 := rfl
    omega
  have hq : V / 256 ^ (a / 8) < 2 ^ (a % 8) := by
    rw [Nat.div_lt_iff_lt_mul (Nat.pow_pos (by decide)), Nat.mul_comm, ← ha]
    exact hV
  have hqm : V / 256 ^ (a / 8) % 256 = V / 256 ^ (a / 8) := Nat.mod_eq_of_lt (by omega)
  refine ⟨?_, by omega⟩
  apply List.ext_getElem?
  intro j
  by_cases hj : j < m
  · rw [leB_get _ _ _ hj, List.getElem?_set]
    have hs : V + c * 2 ^ a = V + 256 ^ (a / 8) * (c * 2 ^ (a % 8)) := by rw [ha, ← Nat.mul_assoc, Nat.mul_comm c, Nat.mul_assoc, Nat.mul_comm c]
    by_cases e : a / 8 = j
    · subst e
      rw [if_pos rfl, leB_length, if_pos hm]
      congr 2
      rw [hs, Nat.add_mul_div_left _ _ (Nat.pow_pos (by decide)), hqm]
      omega
    · rw [if_neg e, leB_get _ _ _ hj]
      congr 2
      rcases Nat.lt_or_gt_of_ne e with h | h
      · -- behind: both are nothing
        have h1 : V + c * 2 ^ a < 256 ^ j := by
          have h2 : V + c * 2 ^ a < 256 ^ (a / 8) * 256 := by
            rw [hs]
            have h3 : V < 256 ^ (a / 8) * 2 ^ (a % 8) := by rw [← ha]; exact hV
            have h4 : 256 ^ (a / 8) * (c * 2 ^ (a % 8) + 2 ^ (a % 8)) ≤ 256 ^ (a / 8) * 256 := Nat.mul_le_mul_left _ hb
            rw [Nat.mul_add] at h4
            omega
          have h5 : 256 ^ (a / 8) * 256 ≤ 256 ^ j := by
            rw [← Nat.pow_succ]
            exact Nat.pow_le_pow_right (by decide) h
          omega
        rw [Nat.div_eq_of_lt h1, Nat.div_eq_of_lt (by omega)]
      · obtain ⟨d, hd⟩ : ∃ d, a / 8 = j + 1 + d := ⟨a / 8 - (j + 1), by omega⟩
        rw [hs, hd, Nat.pow_add, Nat.pow_succ]
        rw [show V + 256 ^ j * 256 * 256 ^ d * (c * 2 ^ (a % 8)) = V + 256 ^ j * (256 * (256 ^ d * (c * 2 ^ (a % 8)))) from by simp only [Nat.mul_assoc]]
        rw [Nat.add_mul_div_left _ _ (Nat.pow_pos (by decide)), Nat.add_mul_mod_self_left]
  · rw [List.getElem?_eq_none (by rw [leB_length]; omega), List.getElem?_eq_none (by rw [List.length_set, leB_length]; omega)]
open Go.RowKit
theorem pow_le8 {t : Nat} (h : t ≤ 8) : 1 ≤ 2 ^ t ∧ (2 : Nat) ^ t ≤ 256 := by
  have h1 : (2 : Nat) ^ t ≤ 2 ^ 8 := Nat.pow_le_pow_right (by decide) h
  have h2 : 0 < 2 ^ t := Nat.pow_pos (by decide)
  exact ⟨h2, h1⟩
theorem mask_val {t : Nat} (h : t ≤ 8) : IntKind.u64.wrap (IntKind.u64.wrap (2 ^ t) - 1) = 2 ^ t - 1 := by
  obtain ⟨h1, h2⟩ := pow_le8 h
  have e : ((2 : Int) ^ t) = ((2 ^ t : Nat) : Int) := by push_cast; rfl
  rw [e, wrap_u64, wrap_u64]
  omega
theorem mask_u64 {z : Int} {t : Nat} (h0 : 0 ≤ z) (h1 : z < 18446744073709551616) (h : t ≤ 8) : bits .and .u64 z (IntKind.u64.wrap (IntKind.u64.wrap (2 ^ t) - 1)) = z % 2 ^ t := by
  rw [mask_val h]
  exact bits_mask .u64 64 (Nat.le_refl _) (fun n h0 h1 => by rw [wrap_u64]; omega) t (by omega) z h0 (by omega)
theorem or_u8 (a b : Nat) (ha : a < 256) (hb : b < 256) : bits .or .u8 a b = ((a ||| b : Nat) : Int) := (bits_nat .u8 8 (Nat.le_refl _) wraps_u8 a b ha hb).2
theorem or_low {y c r : Nat} (hy : y < 2 ^ r) : y ||| c * 2 ^ r = y + c * 2 ^ r := by
  rw [Nat.or_comm, Nat.mul_comm c, ← Nat.two_pow_add_eq_or_of_lt hy c, Nat.add_comm]
theorem stored_u8 (x : Int) (k r t y : Nat) (hx0 : 0 ≤ x) (hx : x < 18446744073709551616) (hy : y < 2 ^ r) (ht : r + t ≤ 8) :
    bits .or .u8 (y : Int) (bits .and .u64 (x / 2 ^ k) (IntKind.u64.wrap (IntKind.u64.wrap (2 ^ t) - 1)) % 256 * 2 ^ r % 256) = ((y + x.toNat / 2 ^ k % 2 ^ t * 2 ^ r : Nat) : Int) := by
  obtain ⟨X, rfl⟩ := Int.eq_ofNat_of_zero_le hx0
  have e1 : ((X : Int) / 2 ^ k) = ((X / 2 ^ k : Nat) : Int) := by push_cast; rfl
  have hle : X / 2 ^ k ≤ X := Nat.div_le_self _ _
  rw [e1, Int.toNat_natCast]
  generalize X / 2 ^ k = Z at hle ⊢
  rw [mask_u64 (by omega) (by omega) (by omega)]
  have e2 : ((Z : Int) % 2 ^ t) = ((Z % 2 ^ t : Nat) : Int) := by push_cast; rfl
  rw [e2]
  have hc : Z % 2 ^ t < 2 ^ t := Nat.mod_lt _ (Nat.pow_pos (by decide))
  generalize Z % 2 ^ t = c at hc ⊢
  have h1 : (c + 1) * 2 ^ r ≤ 2 ^ t * 2 ^ r := Nat.mul_le_mul_right _ hc
  rw [← Nat.pow_add] at h1
  have h2 := (pow_le8 (t := t + r) (by omega)).2
  have h3 := (pow_le8 (t := t) (by omega)).2
  have h4 := (pow_le8 (t := r) (by omega)).1
  rw [Nat.add_mul, Nat.one_mul] at h1
  have e3 : ((c : Int) % 256) = (c : Int) := by omega
  have e4 : ((c : Int) * 2 ^ r) = ((c * 2 ^ r : Nat) : Int) := by push_cast; rfl
  rw [e3, e4]
  have e5 : (((c * 2 ^ r : Nat) : Int) % 256) = ((c * 2 ^ r : Nat) : Int) := by omega
  rw [e5, or_u8 _ _ (by omega) (by omega), or_low hy]
/-- What a round of pack.Bits leaves. -/
theorem bits_round (m P X b k t : Nat) (hP : P < 2 ^ b) (ht : (b + k) % 8 + t ≤ 8) (hm : (b + k) / 8 < m) :
    leB m (P + X % 2 ^ (k + t) * 2 ^ b) = (leB m (P + X % 2 ^ k * 2 ^ b)).set ((b + k) / 8) (((P + X % 2 ^ k * 2 ^ b) / 256 ^ ((b + k) / 8) % 256 + X / 2 ^ k % 2 ^ t * 2 ^ ((b + k) % 8) : Nat) : Int) ∧ (P + X % 2 ^ k * 2 ^ b) / 256 ^ ((b + k) / 8) % 256 < 2 ^ ((b + k) % 8) := by
  have h1 : P + X % 2 ^ (k + t) * 2 ^ b = (P + X % 2 ^ k * 2 ^ b) + X / 2 ^ k % 2 ^ t * 2 ^ (b + k) := by
    rw [Nat.pow_add 2 k t, Nat.mod_mul, Nat.add_mul, Nat.pow_add 2 b k, Nat.add_assoc]
    congr 2
    rw [Nat.mul_comm (2 ^ k), Nat.mul_assoc, Nat.mul_comm (2 ^ b)]
  have h2 : P + X % 2 ^ k * 2 ^ b < 2 ^ (b + k) := by
    have h3 : X % 2 ^ k + 1 ≤ 2 ^ k := Nat.mod_lt _ (Nat.pow_pos (by decide))
    have h4 : (X % 2 ^ k + 1) * 2 ^ b ≤ 2 ^ k * 2 ^ b := Nat.mul_le_mul_right _ h3
    rw [← Nat.pow_add, Nat.add_comm k b, Nat.add_mul, Nat.one_mul] at h4
    omega
  rw [h1]
  exact leB_add m _ _ (b + k) t h2 ht (Nat.mod_lt _ (Nat.pow_pos (by decide))) hm
theorem leB_rd (m V j : Nat) (h : j < m) : (leB m V).getD j 0 = ((V / 256 ^ j % 256 : Nat) : Int) := by
  rw [List.getD_eq_getElem?_getD, leB_get _ _ _ h]; rfl
end Go.Proofs.Ytimlgpfcgklddaa
