/-
Texts of this seat, laid together: R4.
-/
import Derived.Test.YtimlgpfcgklddaaXR1
/-
The document's Bits, against the plain words.
-/
namespace Go.Proofs.Ytimlgpfcgklddaa
open Go.RowKit Go.Proofs.YtimlgpfcgklddaaW.PrintWords Go.Proofs.YtimlgpfcgklddaaW.PrintLast
set_option linter.unusedVariables false
theorem shl8 (r : Nat) (h : r < 8) : shl .u8 1 (IntKind.u64.wrap (r : Int)) = ((2 ^ r : Nat) : Int) := by
  rw [u64w (by omega) (by omega)]
  have : ∀ r : Fin 8, shl .u8 1 ((r.val : Nat) : Int) = ((2 ^ r.val : Nat) : Int) := by decide +kernel
  exact this ⟨r, h⟩
theorem and1 (Z : Nat) (h : Z < 18446744073709551616) : bits .and .u64 (Z : Int) 1 = ((Z % 2 : Nat) : Int) := by
  have := bits_mask .u64 64 (Nat.le_refl _) (fun n h0 h1 => by rw [wrap_u64]; omega) 1 (by omega) (Z : Int) (by omega) (by omega)
  rw [show ((2 : Int) ^ 1 - 1) = 1 from rfl, show ((2 : Int) ^ 1) = 2 from rfl] at this
  rw [this]
  omega
/-- The number that i numbers and k bits of the next one make. -/
def accN (w : Nat) (l : List Int) (i X k : Nat) : Nat := packN w (l.take i) + X % 2 ^ k * 2 ^ (w * i)
theorem tm8 (a : Nat) : Int.tmod (a : Int) 8 = ((a % 8 : Nat) : Int) := by rw [Int.tmod_eq_emod_of_nonneg (by omega)]; omega
theorem td8 (a : Nat) : Int.tdiv (a : Int) 8 = ((a / 8 : Nat) : Int) := by rw [Int.tdiv_eq_ediv_of_nonneg (by omega)]; omega
theorem w64n (k : Nat) (h : k ≤ 9223372036854775807) : wrap64 (k : Int) = (k : Int) := w64 (by omega) (by omega)
theorem w64s (k : Nat) (h : k < 9223372036854775807) : wrap64 ((k : Int) + 1) = ((k + 1 : Nat) : Int) := by rw [w64 (x := (k : Int) + 1) (by omega) (by omega)]; omega
theorem wr_nn (k : Nat) (h : k < 18446744073709551616) : 0 ≤ IntKind.u64.wrap (k : Int) := by rw [u64w (by omega) (by omega)]; omega
theorem bits_row (l : List Int) (w i k a V : Nat) (HV : Aside0 (V < 2 ^ a)) (hw : w ≤ 64) (hkw : k < w) (hi : i < l.length) (ha : a ≤ 134217728) (f : Nat) : P.lecternref03_Bits.l1 (f + 1) l w (leB ((a + 7) / 8) V) (a : Int) i k = (if Go.bits .and .u64 (shr .u64 (rd l i) (IntKind.u64.wrap (k : Int))) 1 = 1 then P.lecternref03_Bits.l1 f l w ((leB (a / 8 + 1) V).set (a / 8) (Go.bits .or .u8 (rd (leB (a / 8 + 1) V) ((a / 8 : Nat) : Int)) (shl .u8 1 (IntKind.u64.wrap ((a % 8 : Nat) : Int))))) ((a + 1 : Nat) : Int) i ((k + 1 : Nat) : Int) else P.lecternref03_Bits.l1 f l w (leB (a / 8 + 1) V) ((a + 1 : Nat) : Int) i ((k + 1 : Nat) : Int)) := by
  rw [P.lecternref03_Bits.l1, if_pos (by omega), tm8, td8, w64n (a / 8) (by omega), w64s a (by omega), w64s k (by omega)]
  by_cases h0 : a % 8 = 0
  · have e1 : leB ((a + 7) / 8) (V) ++ [0] = leB (a / 8 + 1) (V) := by
      rw [show (a + 7) / 8 = a / 8 from by omega]
      unfold leB
      rw [List.range_succ, List.map_append]
      congr 1
      rw [List.map_cons, List.map_nil]
      have : V / 256 ^ (a / 8) = 0 := Nat.div_eq_of_lt (by
        rw [show (256 : Nat) = 2 ^ 8 from rfl, ← Nat.pow_mul, show 8 * (a / 8) = a from by omega]
        exact HV.out)
      rw [this]
      rfl
    rw [if_pos (by omega), if_pos (by rw [leB_length]; omega), e1, Option.bind_some, if_pos (by omega), if_pos (by omega), if_pos (wr_nn k (by omega))]
    by_cases hB : Go.bits .and .u64 (shr .u64 (rd l i) (IntKind.u64.wrap (k : Int))) 1 = 1
    · rw [if_pos hB, if_pos hB, if_pos (Int.natCast_nonneg _), leB_length, if_pos (by omega), if_pos (wr_nn (a % 8) (by omega)), Int.toNat_natCast]
    · rw [if_neg hB, if_neg hB]
  · rw [if_neg (by omega), if_pos (by omega), if_pos (by omega), if_pos (wr_nn k (by omega))]
    rw [show (a + 7) / 8 = a / 8 + 1 from by omega]
    by_cases hB : Go.bits .and .u64 (shr .u64 (rd l i) (IntKind.u64.wrap (k : Int))) 1 = 1
    · rw [if_pos hB, if_pos hB, if_pos (Int.natCast_nonneg _), leB_length, if_pos (by omega), if_pos (wr_nn (a % 8) (by omega)), Int.toNat_natCast]
    · rw [if_neg hB, if_neg hB]
theorem bits_l1 (l : List Int) (w : Nat) (hw : w ≤ 64) (hl : l.length ≤ 1048576) (h : ∀ x ∈ l, 0 ≤ x ∧ x < 18446744073709551616) (i X : Nat) (hi : i < l.length) (hX : rd l (i : Int) = (X : Int)) (hX64 : X < 18446744073709551616) (hP : packN w (l.take i) < 2 ^ (w * i)) (r : List Int) (hk : Ev (fun k => P.lecternref03_Bits.l0 k l w (leB ((w * i + w + 7) / 8) (accN w l i X w)) ((w * i + w : Nat) : Int) ((i + 1 : Nat) : Int)) r) :
    ∀ (d k : Nat), k + d = w → Ev (fun f => P.lecternref03_Bits.l1 f l w (leB ((w * i + k + 7) / 8) (accN w l i X k)) ((w * i + k : Nat) : Int) i k) r
  | 0, k, hd => by
    have e : k = w := by omega
    subst e
    refine ev1 (fun f => ?_) hk
    rw [P.lecternref03_Bits.l1, if_neg (by omega), w64 (by omega) (by omega)]
    rfl
  | d + 1, k, hd => by
    have ih := bits_l1 l w hw hl h i X hi hX hX64 hP r hk d (k + 1) (by omega)
    have hwi : w * i ≤ 64 * 1048576 := Nat.mul_le_mul hw (by omega)
    obtain ⟨a, ha⟩ : ∃ a, w * i + k = a := ⟨_, rfl⟩
    have ha2 : w * i + (k + 1) = a + 1 := by omega
    rw [ha2] at ih
    rw [ha]
    have hV : accN w l i X k < 2 ^ a := by
      unfold accN
      have h3 : X % 2 ^ k + 1 ≤ 2 ^ k := Nat.mod_lt _ (Nat.pow_pos (by decide))
      have h4 : (X % 2 ^ k + 1) * 2 ^ (w * i) ≤ 2 ^ k * 2 ^ (w * i) := Nat.mul_le_mul_right _ h3
      rw [← Nat.pow_add, Nat.add_comm k, ha, Nat.add_mul, Nat.one_mul] at h4
      omega
    -- the row with its byte at hand
    have hrow := bits_row l w i k a (accN w l i X k) ⟨hV⟩ hw (by omega) hi (by omega)
    have hb := bits_round (a / 8 + 1) (packN w (l.take i)) X (w * i) k 1 hP (by omega) (by omega)
    rw [ha] at hb
    have hacc : packN w (l.take i) + X % 2 ^ k * 2 ^ (w * i) = accN w l i X k := rfl
    rw [hacc] at hb
    have hacc1 : packN w (l.take i) + X % 2 ^ (k + 1) * 2 ^ (w * i) = accN w l i X (k + 1) := rfl
    rw [hacc1] at hb
    have hbit : Go.bits .and .u64 (shr .u64 (rd l i) (IntKind.u64.wrap (k : Int))) 1 = ((X / 2 ^ k % 2 : Nat) : Int) := by
      rw [hX, shrk X k (by omega)]
      exact and1 _ (Nat.lt_of_le_of_lt (Nat.div_le_self _ _) hX64)
    have hrdd : rd (leB (a / 8 + 1) (accN w l i X k)) ((a / 8 : Nat) : Int) = ((accN w l i X k / 256 ^ (a / 8) % 256 : Nat) : Int) := by
      unfold rd
      rw [Int.toNat_natCast]
      exact leB_rd _ _ _ (by omega)
    rw [show (a + 1 + 7) / 8 = a / 8 + 1 from by omega] at ih
    refine ev1 (fun f => ?_) ih
    rw [hrow f, hbit]
    have h1 := hb.1
    rw [show (2 : Nat) ^ 1 = 2 from rfl] at h1
    rcases Nat.mod_two_eq_zero_or_one (X / 2 ^ k) with hz | hz
    · rw [hz, if_neg (by decide)]
      simp only [hz, Nat.zero_mul, Nat.add_zero] at h1
      have h2 : (leB (a / 8 + 1) (accN w l i X k)).set (a / 8) ((accN w l i X k / 256 ^ (a / 8) % 256 : Nat) : Int) = leB (a / 8 + 1) (accN w l i X k) := by
        apply List.ext_getElem?
        intro j
        rw [List.getElem?_set]
        split
        · rename_i hj
          subst hj
          rw [leB_length, if_pos (by omega), leB_get _ _ _ (by omega)]
        · rfl
      rw [h1, h2]
    · rw [hz, if_pos (by decide), hrdd, shl8 (a % 8) (by omega)]
      rw [hz, Nat.one_mul] at h1
      have hlow := hb.2
      have h8 := (pow_le8 (t := a % 8) (by omega))
      have hp : 2 ^ (a % 8) * 2 ≤ 256 := by
        rw [← Nat.pow_succ]
        exact (pow_le8 (t := a % 8 + 1) (by omega)).2
      have h3 := or_low (c := 1) hlow
      rw [Nat.one_mul] at h3
      rw [or_u8 _ _ (by omega) (by omega), h3, h1]
theorem bits_l0 (l : List Int) (w : Nat) (hw : w ≤ 64) (hl : l.length ≤ 1048576) (h : ∀ x ∈ l, 0 ≤ x ∧ x < 18446744073709551616) (hfit : ∀ x ∈ l, x.toNat < 2 ^ w) : ∀ (d i : Nat), i + d = l.length → Ev (fun k => P.lecternref03_Bits.l0 k l w (leB ((w * i + 7) / 8) (packN w (l.take i))) ((w * i : Nat) : Int) i) (leB ((w * l.length + 7) / 8) (packN w l))
  | 0, i, hi => by
    have e : i = l.length := by omega
    subst e
    rw [List.take_length]
    refine ev1 (f := fun _ => some _) (fun k => ?_) (Ev.now _)
    rw [P.lecternref03_Bits.l0, if_neg (by omega)]
  | d + 1, i, hi => by
    have hlt : i < l.length := by omega
    obtain ⟨X, hX, hX64, hXm⟩ := rd_nn h hlt
    have hXf := hfit _ hXm
    rw [Int.toNat_natCast] at hXf
    have ih := bits_l0 l w hw hl h hfit d (i + 1) (by omega)
    have hP : packN w (l.take i) < 2 ^ (w * i) := by
      have := packN_lt w (l.take i) (fun x hx => hfit x (List.mem_of_mem_take hx))
      rw [List.length_take, Nat.min_eq_left (by omega)] at this
      exact this
    have htk : packN w (l.take (i + 1)) = accN w l i X w := by
      rw [take_rd l i hlt, packN_snoc, List.length_take, Nat.min_eq_left (by omega)]
      unfold accN
      have : (l.getD i 0).toNat = X := by
        have : l.getD i 0 = rd l (i : Int) := by unfold rd; rw [Int.toNat_natCast]
        rw [this, hX, Int.toNat_natCast]
      rw [this, Nat.mod_eq_of_lt hXf]
    rw [htk, Nat.mul_succ] at ih
    have h1 := bits_l1 l w hw hl h i X hlt hX hX64 hP _ ih w 0 (by omega)
    have h0 : accN w l i X 0 = packN w (l.take i) := by unfold accN; rw [Nat.pow_zero, Nat.mod_one, Nat.zero_mul, Nat.add_zero]
    rw [h0, Nat.add_zero] at h1
    refine ev1 (fun k => ?_) h1
    rw [P.lecternref03_Bits.l0, if_pos (by omega)]
    rfl
theorem bits_ev (l : List Int) (w : Nat) (hw : w ≤ 64) (hl : l.length ≤ 1048576) (h : ∀ x ∈ l, 0 ≤ x ∧ x < 18446744073709551616) (hfit : ∀ x ∈ l, x.toNat < 2 ^ w) : Ev (fun k => P.lecternref03_Bits.f k l w) (leB ((w * l.length + 7) / 8) (packN w l)) := by
  have := bits_l0 l w hw hl h hfit l.length 0 (by omega)
  rw [Nat.mul_zero, List.take_zero] at this
  have e1 : ∀ k, P.lecternref03_Bits.f k l w = P.lecternref03_Bits.j0 k l w [] false := fun k => by
    unfold P.lecternref03_Bits.f
    rw [if_neg (by omega), decide_eq_false (by omega)]
  refine Ev.congr e1 (ev1 (fun k => ?_) this)
  rw [P.lecternref03_Bits.j0, if_neg (by decide)]
  rfl
end Go.Proofs.Ytimlgpfcgklddaa
