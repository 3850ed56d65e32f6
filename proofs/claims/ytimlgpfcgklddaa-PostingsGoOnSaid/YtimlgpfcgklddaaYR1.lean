/-
Texts of this seat, laid together: R1, R2, R3, R4, R5, M11, R6.
-/
import Derived.Test.YtimlgpfcgklddaaYF46
import Derived.Test.YtimlgpfcgklddaaYF107
import Derived.Test.YtimlgpfcgklddaaYF48
import Derived.Test.YtimlgpfcgklddaaYF11
import Derived.Test.YtimlgpfcgklddaaYA15
import Derived.Test.YtimlgpfcgklddaaYC8
/-
The document's Right and Uint, against the plain words.
-/
namespace Go.Proofs.Ytimlgpfcgklddaa
open Go.RowKit Go.Proofs.YtimlgpfcgklddaaW.PrintWords Go.Proofs.YtimlgpfcgklddaaW.PrintLast
set_option linter.unusedVariables false
theorem w64 {x : Int} (h0 : -9223372036854775808 ≤ x) (h1 : x ≤ 9223372036854775807) : wrap64 x = x := by unfold wrap64; omega
/-- Ev, where one round is spent. -/
theorem ev1 {α : Type} {g : Nat → Option α} {f : Nat → Option α} {r : α} (h : ∀ k, g (k + 1) = f k) (k : Ev f r) : Ev g r := Ev.step h k
theorem rdd (l : List Int) (k : Nat) (h : k < l.length) : l.drop k = rd l k :: l.drop (k + 1) := by
  rw [List.drop_eq_getElem_cons h]
  unfold rd
  rw [Int.toNat_natCast, List.getD_eq_getElem?_getD, List.getElem?_eq_getElem h]
  rfl
def to58 (p : P.S86) : P.S58 := ⟨p.f0, p.f1⟩
/-- Positions that are right, one behind another. -/
def chkP : List Int → Int → Bool
  | [], _ => true
  | x :: r, prev => decide (0 ≤ x) && (decide (x ≤ 1048576) && (decide (prev ≤ x) && chkP r x))
def prevOf (xs : List Int) (j : Nat) : Int := if j = 0 then 0 else rd xs ((j : Int) - 1)
theorem prevOf_zero (xs : List Int) : prevOf xs 0 = 0 := rfl
theorem prevOf_pos (xs : List Int) {j : Nat} (h : 0 < j) : prevOf xs j = rd xs ((j : Int) - 1) := if_neg (by omega)
theorem prevOf_succ (xs : List Int) (j : Nat) : prevOf xs (j + 1) = rd xs j := by
  rw [prevOf_pos xs (by omega), show (((j + 1 : Nat) : Int) - 1) = (j : Int) from by omega]
theorem right_l1 (x0 : List P.S86) (x3 x4 x5 : Int) (xs : List Int) (r : Bool) (hl : xs.length ≤ 4611686018427387904) (h : Ev (fun k => P.lecternref10_Right.l0 k x0 x3 x4 (wrap64 (x5 + 1))) r) : ∀ (d j : Nat), j + d = xs.length → Ev (fun k => P.lecternref10_Right.l1 k x0 x3 x4 x5 xs j) (if chkP (xs.drop j) (prevOf xs j) = true then r else false)
  | 0, j, hj => by
    rw [List.drop_eq_nil_of_le (by omega), chkP, if_pos rfl]
    refine ev1 (fun k => ?_) h
    rw [P.lecternref10_Right.l1, if_neg (by omega)]
  | d + 1, j, hj => by
    have ih := right_l1 x0 x3 x4 x5 xs r hl h d (j + 1) (by omega)
    rw [prevOf_succ] at ih
    rw [rdd xs j (by omega), chkP]
    by_cases h0 : rd xs j < 0
    · rw [if_neg (by simp; omega)]
      refine ev1 (f := fun _ => some false) (fun k => ?_) (Ev.now _)
      rw [P.lecternref10_Right.l1, if_pos (by omega), if_pos (by omega), if_pos h0]
    · rw [decide_eq_true (show 0 ≤ rd xs j by omega), Bool.true_and]
      by_cases h1 : rd xs j > 1048576
      · rw [if_neg (by simp; omega)]
        refine ev1 (f := fun _ => some false) (fun k => ?_) (Ev.now _)
        rw [P.lecternref10_Right.l1, if_pos (by omega), if_pos (by omega), if_neg h0, if_pos h1]
      · rw [decide_eq_true (show rd xs j ≤ 1048576 by omega), Bool.true_and]
        rcases Nat.eq_zero_or_pos j with hz | hz
        · subst hz
          rw [prevOf_zero, decide_eq_true (show (0 : Int) ≤ rd xs ((0 : Nat) : Int) by omega), Bool.true_and]
          refine ev1 (fun k => ?_) ih
          rw [P.lecternref10_Right.l1, if_pos (by omega), if_pos (by omega), if_neg h0, if_neg h1, if_neg (by simp), w64 (by omega) (by omega)]
          rfl
        · rw [prevOf_pos xs hz]
          have e1 : wrap64 ((j : Int) - 1) = (j : Int) - 1 := w64 (by omega) (by omega)
          by_cases h2 : rd xs j < rd xs ((j : Int) - 1)
          · rw [if_neg (by simp; omega)]
            refine ev1 (f := fun _ => some false) (fun k => ?_) (Ev.now _)
            rw [P.lecternref10_Right.l1, if_pos (by omega), if_pos (by omega), if_neg h0, if_neg h1, if_pos (by omega), e1, if_pos (by omega), if_pos (by omega), if_pos h2]
          · rw [decide_eq_true (show rd xs ((j : Int) - 1) ≤ rd xs j by omega), Bool.true_and]
            refine ev1 (fun k => ?_) ih
            rw [P.lecternref10_Right.l1, if_pos (by omega), if_pos (by omega), if_neg h0, if_neg h1, if_pos (by omega), e1, if_pos (by omega), if_pos (by omega), if_neg h2, w64 (by omega) (by omega)]
            rfl
theorem chkP_iff : ∀ (l : List Int) (prev : Int), chkP l prev = true ↔ (∀ j : Nat, j < l.length → 0 ≤ l.getD j 0 ∧ l.getD j 0 ≤ 1048576 ∧ (if j = 0 then prev else l.getD (j - 1) 0) ≤ l.getD j 0)
  | [], prev => by simp [chkP]
  | x :: r, prev => by
    rw [chkP, Bool.and_eq_true, Bool.and_eq_true, Bool.and_eq_true, chkP_iff r x]
    simp only [decide_eq_true_iff]
    constructor
    · rintro ⟨h0, h1, h2, h3⟩ j hj
      match j with
      | 0 => simpa using ⟨h0, h1, h2⟩
      | 1 => have := h3 0 (by rw [List.length_cons] at hj; omega); simpa using this
      | j + 2 => have := h3 (j + 1) (by rw [List.length_cons] at hj; omega); simpa using this
    · intro h
      have h0 := h 0 (by simp)
      simp only [List.getD_cons_zero, if_true] at h0
      refine ⟨h0.1, h0.2.1, h0.2.2, fun j hj => ?_⟩
      have := h (j + 1) (by simpa using hj)
      match j with
      | 0 => simpa using this
      | j + 1 => simpa using this
theorem sorted_iff (l : List Int) (hl : 1 ≤ l.length) : (sortedB l && decide (0 ≤ l.getD 0 0) && decide (l.getD (l.length - 1) 0 ≤ 1048576)) = chkP l 0 := by
  rw [Bool.eq_iff_iff, chkP_iff]
  simp only [Bool.and_eq_true, decide_eq_true_iff]
  constructor
  · rintro ⟨⟨h1, h2⟩, h3⟩ j hj
    have hle := sortedTo_le l _ h1
    have ha := hle 0 j (by omega) (by omega)
    have hb := hle j (l.length - 1) (by omega) (Nat.le_refl _)
    refine ⟨by omega, by omega, ?_⟩
    split
    · omega
    · exact hle (j - 1) j (by omega) (by omega)
  · intro h
    have hs : ∀ i, i < l.length → sortedTo l i = true := by
      intro i
      induction i with
      | zero => intro _; rfl
      | succ i ih =>
        intro hi
        rw [sortedTo_succ, ih (by omega), Bool.and_true, decide_eq_true_iff]
        have := (h (i + 1) hi).2.2
        simpa using this
    exact ⟨⟨hs _ (by omega), (h 0 (by omega)).1⟩, (h (l.length - 1) (by omega)).2.1⟩
theorem right_l0 (x0 : List P.S86) (hl : x0.length ≤ 4611686018427387904) (hp : ∀ p ∈ x0, p.f1.length ≤ 4611686018427387904) : ∀ (d i : Nat) (all last : Int), i + d = x0.length → 0 ≤ all → all ≤ 1048576 → Ev (fun k => P.lecternref10_Right.l0 k x0 all last i) (rightB last all ((x0.drop i).map to58))
  | 0, i, all, last, hi, h0, h1 => by
    rw [List.drop_eq_nil_of_le (by omega)]
    refine ev1 (f := fun _ => some true) (fun k => ?_) (Ev.now _)
    rw [P.lecternref10_Right.l0, if_neg (by omega)]
  | d + 1, i, all, last, hi, h0, h1 => by
    have hlt : i < x0.length := by omega
    have he : P.rd_T86 x0 (i : Int) = x0[i] := by unfold P.rd_T86; rw [Int.toNat_natCast]; simp [hlt]
    have hpl := hp _ (List.getElem_mem hlt)
    rw [List.drop_eq_getElem_cons hlt, List.map_cons, rightB]
    obtain ⟨p, hpe⟩ : ∃ p, x0[i] = p := ⟨_, rfl⟩
    rw [hpe] at he hpl ⊢
    have hno : ∀ (b : Bool), (b = true) → Ev (fun k => P.lecternref10_Right.j1 k x0 all i p.f1 b) false := by
      intro b hb
      refine ev1 (f := fun _ => some false) (fun k => ?_) (Ev.now _)
      rw [P.lecternref10_Right.j1, if_pos hb]
    have hpost : postB last all (to58 p) = (decide (last < p.f0) && decide (p.f0 < 16384) && decide (1 ≤ p.f1.length) && decide (all + p.f1.length ≤ 1048576) && (sortedB p.f1 && decide (0 ≤ p.f1.getD 0 0) && decide (p.f1.getD (p.f1.length - 1) 0 ≤ 1048576))) := by
      unfold postB to58
      simp only [Bool.and_assoc]
    rw [hpost]
    by_cases c1 : p.f0 ≤ last
    · rw [decide_eq_false (show ¬ last < p.f0 by omega)]
      simp only [Bool.false_and]
      refine ev1 (fun k => ?_) (hno true rfl)
      rw [P.lecternref10_Right.l0, if_pos (by omega), if_pos (by omega), he, if_pos c1]
    · rw [decide_eq_true (show last < p.f0 by omega), Bool.true_and]
      by_cases c2 : p.f0 ≥ 16384
      · rw [decide_eq_false (show ¬ p.f0 < 16384 by omega)]
        simp only [Bool.false_and]
        refine ev1 (fun k => ?_) (hno true rfl)
        rw [P.lecternref10_Right.l0, if_pos (by omega), if_pos (by omega), he, if_neg c1, if_pos c2]
      · rw [decide_eq_true (show p.f0 < 16384 by omega), Bool.true_and]
        by_cases c3 : (p.f1.length : Int) = 0
        · rw [decide_eq_false (show ¬ 1 ≤ p.f1.length by omega)]
          simp only [Bool.false_and]
          refine ev1 (fun k => ?_) (hno true rfl)
          rw [P.lecternref10_Right.l0, if_pos (by omega), if_pos (by omega), he, if_neg c1, if_neg c2, if_pos c3]
        · rw [decide_eq_true (show 1 ≤ p.f1.length by omega), Bool.true_and]
          have ew : wrap64 (1048576 - all) = 1048576 - all := w64 (by omega) (by omega)
          by_cases c4 : (p.f1.length : Int) > 1048576 - all
          · rw [decide_eq_false (show ¬ all + (p.f1.length : Int) ≤ 1048576 by omega)]
            simp only [Bool.false_and]
            refine ev1 (fun k => ?_) (hno true rfl)
            rw [P.lecternref10_Right.l0, if_pos (by omega), if_pos (by omega), he, if_neg c1, if_neg c2, if_neg c3, ew, decide_eq_true c4]
          · rw [decide_eq_true (show all + (p.f1.length : Int) ≤ 1048576 by omega), Bool.true_and, sorted_iff p.f1 (by omega)]
            have ih := right_l0 x0 hl hp d (i + 1) (all + p.f1.length) p.f0 (by omega) (by omega) (by omega)
            have h2 := right_l1 x0 (all + p.f1.length) p.f0 i p.f1 _ hpl (by rw [w64 (by omega) (by omega)]; exact ih) p.f1.length 0 (by omega)
            rw [prevOf_zero, List.drop_zero] at h2
            have h3 : (chkP p.f1 0 && rightB p.f0 (all + p.f1.length) ((x0.drop (i + 1)).map to58)) = (if chkP p.f1 0 = true then rightB p.f0 (all + p.f1.length) ((x0.drop (i + 1)).map to58) else false) := by
              cases chkP p.f1 0 <;> simp
            show Ev _ (chkP p.f1 0 && rightB p.f0 (all + p.f1.length) ((x0.drop (i + 1)).map to58))
            rw [h3]
            refine ev1 (f := fun k => P.lecternref10_Right.j1 k x0 all i p.f1 false) (fun k => ?_) (ev1 (fun k => ?_) h2)
            · rw [P.lecternref10_Right.l0, if_pos (by omega), if_pos (by omega), he, if_neg c1, if_neg c2, if_neg c3, ew, decide_eq_false c4]
            · rw [P.lecternref10_Right.j1, if_neg (by decide), if_pos (by omega), if_pos (by omega), he, w64 (by omega) (by omega)]
              rfl
theorem right_ev (x0 : List P.S86) (hl : x0.length ≤ 4611686018427387904) (hp : ∀ p ∈ x0, p.f1.length ≤ 4611686018427387904) : Ev (fun k => P.lecternref10_Right.f k x0) (rightB (-1) 0 (x0.map to58)) := by
  have := right_l0 x0 hl hp x0.length 0 0 (-1) (by omega) (by decide) (by decide)
  rw [List.drop_zero] at this
  exact this
end Go.Proofs.Ytimlgpfcgklddaa
/-
The document's Uint and Turned, against the plain words.
-/
namespace Go.Proofs.Ytimlgpfcgklddaa
open Go.RowKit Go.Proofs.YtimlgpfcgklddaaW.PrintWords Go.Proofs.YtimlgpfcgklddaaW.PrintLast
set_option linter.unusedVariables false
theorem u64w {x : Int} (h0 : 0 ≤ x) (h1 : x < 18446744073709551616) : IntKind.u64.wrap x = x := by rw [wrap_u64]; omega
theorem shr7 (u j : Nat) (hj : j ≤ 9) : shr .u64 (u : Int) (IntKind.u64.wrap (wrap64 (7 * (j : Int)))) = ((u / 128 ^ j : Nat) : Int) := by
  rw [w64 (by omega) (by omega), u64w (by omega) (by omega)]
  show (u : Int) / 2 ^ min (7 * (j : Int)).toNat 64 = _
  have e : (2 : Int) ^ (7 * j) = ((128 ^ j : Nat) : Int) := by rw [Int.pow_mul, show (2 : Int) ^ 7 = ((128 : Nat) : Int) from rfl, Int.natCast_pow]
  rw [show min (7 * (j : Int)).toNat 64 = 7 * j from by omega, e]
  exact (Int.natCast_ediv u (128 ^ j)).symm
theorem uint_l1 (u K : Nat) (hK : K ≤ 10) (hg : ∀ i, i < K → (i + 1 < K ↔ 127 < u / 128 ^ i)) : ∀ (d i : Nat) (acc : List Int), i + d = K → 1 ≤ d → acc.length ≤ 20 * i → Ev (fun k => P.lecternref02_Uint.l1 k u K acc i) (acc ++ uvn (u / 128 ^ i))
  | 0, i, acc, h, h1, _ => by omega
  | d + 1, i, acc, h, h1, ha => by
    have hs := shr7 u i (by omega)
    have hi := hg i (by omega)
    have h7 : 0 ≤ IntKind.u64.wrap (wrap64 (7 * (i : Int))) := by rw [w64 (by omega) (by omega), u64w (by omega) (by omega)]; omega
    have hp1 : u / 128 ^ (i + 1) = u / 128 ^ i / 128 := by rw [Nat.pow_succ, Nat.div_div_eq_div_mul]
    by_cases hb : i + 1 < K
    · have hbig := hi.1 hb
      rw [uvn_big hbig, ← hp1]
      have ih := uint_l1 u K hK hg d (i + 1) (acc ++ [((u / 128 ^ i % 128 + 128 : Nat) : Int)]) (by omega) (by omega) (by rw [List.length_append, List.length_singleton]; omega)
      rw [List.append_assoc] at ih
      refine ev1 (fun k => ?_) ih
      have e : (((u / 128 ^ i : Nat) : Int) % 256 % 128 + 128) = ((u / 128 ^ i % 128 + 128 : Nat) : Int) := by omega
      rw [P.lecternref02_Uint.l1, if_pos (by omega), if_pos h7, w64 (by omega) (by omega), if_pos (by omega), if_pos (by omega), hs, e]
      rfl
    · have hsm : u / 128 ^ i ≤ 127 := by omega
      have hd : d = 0 := by omega
      subst hd
      rw [uvn_small hsm]
      refine ev1 (f := fun k => P.lecternref02_Uint.l1 k u K (acc ++ [((u / 128 ^ i : Nat) : Int)]) ((i + 1 : Nat) : Int)) (fun k => ?_) (ev1 (f := fun _ => some (acc ++ [((u / 128 ^ i : Nat) : Int)])) (fun k => ?_) (Ev.now _))
      · have e : (((u / 128 ^ i : Nat) : Int) % 256 % 128) = ((u / 128 ^ i : Nat) : Int) := (show ∀ q : Nat, q ≤ 127 → ((q : Int) % 256 % 128) = (q : Int) from fun q h => by omega) _ hsm
        rw [P.lecternref02_Uint.l1, if_pos (by omega), if_pos h7, w64 (by omega) (by omega), if_neg (by omega), if_pos (by omega), hs, e]
        rfl
      · rw [P.lecternref02_Uint.l1, if_neg (by omega)]
theorem uint_l0 (u : Nat) (hu : u < 18446744073709551616) : ∀ (d j : Nat), j + d = 10 → 1 ≤ j → (∀ i, 1 ≤ i → i < j → 0 < u / 128 ^ i) → Ev (fun k => P.lecternref02_Uint.l0 k u j) (uvn u)
  | d, j, h, h1, hpos => by
    have hdiv : ∀ i, u / 128 ^ (i + 1) = u / 128 ^ i / 128 := fun i => by rw [Nat.pow_succ, Nat.div_div_eq_div_mul]
    have fin : (∀ i, i < j → (i + 1 < j ↔ 127 < u / 128 ^ i)) → Ev (fun k => P.lecternref02_Uint.j1 k u j) (uvn u) := fun hg => by
      have := uint_l1 u j (by omega) hg j 0 [] (by omega) h1 (by simp)
      rw [Nat.pow_zero, Nat.div_one, List.nil_append] at this
      refine ev1 (fun k => ?_) this
      rw [P.lecternref02_Uint.j1]
      rfl
    match d with
    | 0 =>
      have hj : j = 10 := by omega
      subst hj
      refine ev1 (fun k => ?_) (fin fun i hi => ⟨fun h2 => by have := hpos (i + 1) (by omega) h2; rw [hdiv] at this; omega, fun h2 => by
        rcases Nat.lt_or_ge (i + 1) 10 with h3 | h3
        · exact h3
        · have : i = 9 := by omega
          subst this
          have h4 : u / 128 ^ 9 < 2 := by rw [Nat.div_lt_iff_lt_mul (by decide)]; exact Nat.lt_of_lt_of_le hu (by decide)
          omega⟩)
      rw [P.lecternref02_Uint.l0, if_neg (by decide)]
    | d + 1 =>
      have h7 : 0 ≤ IntKind.u64.wrap (wrap64 (7 * (j : Int))) := by rw [w64 (by omega) (by omega), u64w (by omega) (by omega)]; omega
      have hs := shr7 u j (by omega)
      by_cases hz : u / 128 ^ j = 0
      · refine ev1 (fun k => ?_) (fin fun i hi => ⟨fun h2 => by have := hpos (i + 1) (by omega) h2; rw [hdiv] at this; omega, fun h2 => by
          rcases Nat.lt_or_ge (i + 1) j with h3 | h3
          · exact h3
          · have e : j = i + 1 := by omega
            rw [e, hdiv] at hz
            omega⟩)
        rw [P.lecternref02_Uint.l0, if_pos (by omega), if_pos h7, hs, if_neg (by omega)]
      · have ih := uint_l0 u hu d (j + 1) (by omega) (by omega) (fun i h2 h3 => by
          rcases Nat.lt_or_ge i j with h4 | h4
          · exact hpos i h2 h4
          · have e : i = j := by omega
            rw [e]; exact Nat.pos_of_ne_zero hz)
        refine ev1 (fun k => ?_) ih
        rw [P.lecternref02_Uint.l0, if_pos (by omega), if_pos h7, hs, if_pos (Int.natCast_pos.2 (Nat.pos_of_ne_zero hz)), w64 (by omega) (by omega)]
        rfl
theorem uint_ev (n : Int) (h0 : 0 ≤ n) (h1 : n < 18446744073709551616) : Ev (fun k => P.lecternref02_Uint.f k n) (uv n) := by
  obtain ⟨u, rfl⟩ := Int.eq_ofNat_of_zero_le h0
  have := uint_l0 u (by omega) 9 1 (by omega) (by omega) (fun i h2 h3 => by omega)
  unfold uv
  rw [Int.toNat_natCast]
  exact this
theorem turned_eq (n : Int) (h0 : -9223372036854775808 ≤ n) (h1 : n ≤ 9223372036854775807) : P.lecternref02_Turned.f n = some (zz n) := by
  unfold P.lecternref02_Turned.f zz
  by_cases h : n ≥ 0
  · rw [if_pos h, if_pos h, u64w (x := n) (by omega) (by omega), u64w (by omega) (by omega)]
  · rw [if_neg h, if_neg h, w64 (x := n + 1) (by omega) (by omega), w64 (by omega) (by omega), u64w (x := -(n + 1)) (by omega) (by omega), u64w (x := 2 * _) (by omega) (by omega), u64w (by omega) (by omega)]
    congr 1
    omega
end Go.Proofs.Ytimlgpfcgklddaa
/-
The document's Width and Bits, against the plain words.
-/
namespace Go.Proofs.Ytimlgpfcgklddaa
open Go.RowKit Go.Proofs.YtimlgpfcgklddaaW.PrintWords Go.Proofs.YtimlgpfcgklddaaW.PrintLast
set_option linter.unusedVariables false
theorem shrk (X k : Nat) (hk : k ≤ 64) : shr .u64 (X : Int) (IntKind.u64.wrap (k : Int)) = ((X / 2 ^ k : Nat) : Int) := by
  rw [u64w (by omega) (by omega)]
  show (X : Int) / 2 ^ min (k : Int).toNat 64 = _
  have e : (2 : Int) ^ k = ((2 ^ k : Nat) : Int) := by push_cast; rfl
  rw [show min (k : Int).toNat 64 = k from by omega, e]
  exact (Int.natCast_ediv X (2 ^ k)).symm
theorem bitLen_min : ∀ (W x : Nat), W ≤ 64 → x < 2 ^ W → Lib.bitLen x ≤ W
  | 0, x, _, h => by
    have : x = 0 := by rw [Nat.pow_zero] at h; omega
    subst this
    decide
  | W + 1, x, hW, h => by
    rcases Nat.eq_zero_or_pos x with h0 | h0
    · subst h0; exact Nat.zero_le _
    · have hx : x < 2 ^ 64 := Nat.lt_of_lt_of_le h (Nat.pow_le_pow_right (by decide) hW)
      rw [Lib.bitLen_half x (by omega) hx]
      have := bitLen_min W (x / 2) (by omega) (by rw [Nat.pow_succ] at h; omega)
      omega
theorem orAll_lt (l : List Int) (W : Nat) (hW : W ≤ 64) (h : ∀ x ∈ l, 0 ≤ x ∧ x.toNat < 2 ^ W) : (orAll l).toNat < 2 ^ W := by
  have hWW : (2 : Nat) ^ W ≤ 2 ^ 64 := Nat.pow_le_pow_right (by decide) hW
  have : ∀ (l : List Int) (a : Nat), (∀ x ∈ l, 0 ≤ x ∧ x.toNat < 2 ^ W) → a < 2 ^ W → (l.foldl (fun a b => bits .or .u64 a b) (a : Int)).toNat < 2 ^ W := by
    intro l
    induction l with
    | nil => intro a _ h; simpa using h
    | cons z q ih =>
      intro a hq ha
      obtain ⟨z0, z1⟩ := hq z List.mem_cons_self
      obtain ⟨p, rfl⟩ := Int.eq_ofNat_of_zero_le z0
      rw [List.foldl_cons, bits_or_nat a p (by omega) (by omega)]
      exact ih (a ||| p) (fun y hy => hq y (List.mem_cons_of_mem _ hy)) (Nat.or_lt_two_pow ha (by omega))
  exact this l 0 h (Nat.pow_pos (by decide))
theorem width_min (l : List Int) (W : Nat) (hW : W ≤ 64) (h : ∀ x ∈ l, 0 ≤ x ∧ x.toNat < 2 ^ W) : widthOf l ≤ W := bitLen_min W _ hW (orAll_lt l W hW h)
theorem rd_nn {l : List Int} (h : ∀ x ∈ l, 0 ≤ x ∧ x < 18446744073709551616) {i : Nat} (hi : i < l.length) : ∃ X : Nat, rd l (i : Int) = (X : Int) ∧ X < 18446744073709551616 ∧ (X : Int) ∈ l := by
  have he : rd l (i : Int) = l[i] := by unfold rd; rw [Int.toNat_natCast]; simp [hi]
  have hm := List.getElem_mem hi
  have := h _ hm
  obtain ⟨X, hX⟩ := Int.eq_ofNat_of_zero_le this.1
  exact ⟨X, by rw [he, hX], by omega, by rw [← hX]; exact hm⟩
theorem width_l0 (l : List Int) (hl : l.length ≤ 4611686018427387904) (h : ∀ x ∈ l, 0 ≤ x ∧ x < 18446744073709551616) : ∀ (d i w : Nat), i + d = l.length → w ≤ widthOf l → (∀ j, j < i → (rd l (j : Int)).toNat < 2 ^ w) → Ev (fun k => P.lecternref03_Width.l0 k l w i) ((widthOf l : Nat) : Int)
  | 0, i, w, hi, hw, hb => by
    have hW : widthOf l ≤ w := width_min l w (Nat.le_trans hw (widthOf_le l)) (fun x hx => by
      obtain ⟨j, hj, rfl⟩ := List.mem_iff_getElem.1 hx
      refine ⟨(h _ hx).1, ?_⟩
      have := hb j (by omega)
      have he : rd l (j : Int) = l[j] := by unfold rd; rw [Int.toNat_natCast]; simp [hj]
      rw [he] at this
      exact this)
    have : w = widthOf l := by omega
    subst this
    refine ev1 (f := fun _ => some _) (fun k => ?_) (Ev.now _)
    rw [P.lecternref03_Width.l0, if_neg (by omega)]
  | d + 1, i, w, hi, hw, hb => by
    have hlt : i < l.length := by omega
    obtain ⟨X, hX, hX64, hXm⟩ := rd_nn h hlt
    have hfit := (width_fits l h _ hXm).2
    rw [Int.toNat_natCast] at hfit
    have hw64 := widthOf_le l
    -- the inner loop
    have inner : ∀ (e v : Nat), v + e = widthOf l → w ≤ v → Ev (fun k => P.lecternref03_Width.l1 k l v i) ((widthOf l : Nat) : Int) := by
      intro e
      induction e with
      | zero =>
        intro v hv hwv
        have ih := width_l0 l hl h d (i + 1) v (by omega) (by omega) (fun j hj => by
          rcases Nat.lt_or_ge j i with h1 | h1
          · exact Nat.lt_of_lt_of_le (hb j h1) (Nat.pow_le_pow_right (by decide) hwv)
          · have : j = i := by omega
            rw [this, hX, Int.toNat_natCast]
            rw [show v = widthOf l from by omega]
            exact hfit)
        refine ev1 (fun k => ?_) ih
        by_cases h64 : v < 64
        · rw [P.lecternref03_Width.l1, if_pos (by omega), if_pos (by omega), if_pos (by omega), if_pos (by rw [u64w (by omega) (by omega)]; omega), hX, shrk X v (by omega), if_pos (by rw [Nat.div_eq_of_lt (by rw [show v = widthOf l from by omega]; exact hfit)]; rfl), w64 (by omega) (by omega)]
          rfl
        · rw [P.lecternref03_Width.l1, if_neg (by omega), w64 (by omega) (by omega)]
          rfl
      | succ e ih =>
        intro v hv hwv
        have h64 : v < 64 := by omega
        by_cases hz : X / 2 ^ v = 0
        · have hXv : X < 2 ^ v := by
            rcases Nat.lt_or_ge X (2 ^ v) with h1 | h1
            · exact h1
            · have := Nat.div_pos h1 (Nat.pow_pos (by decide)); omega
          have ih0 := width_l0 l hl h d (i + 1) v (by omega) (by omega) (fun j hj => by
            rcases Nat.lt_or_ge j i with h1 | h1
            · exact Nat.lt_of_lt_of_le (hb j h1) (Nat.pow_le_pow_right (by decide) hwv)
            · have : j = i := by omega
              rw [this, hX, Int.toNat_natCast]
              exact hXv)
          refine ev1 (fun k => ?_) ih0
          rw [P.lecternref03_Width.l1, if_pos (by omega), if_pos (by omega), if_pos (by omega), if_pos (by rw [u64w (by omega) (by omega)]; omega), hX, shrk X v (by omega), if_pos (by rw [hz]; rfl), w64 (by omega) (by omega)]
          rfl
        · refine ev1 (fun k => ?_) (ih (v + 1) (by omega) (by omega))
          rw [P.lecternref03_Width.l1, if_pos (by omega), if_pos (by omega), if_pos (by omega), if_pos (by rw [u64w (by omega) (by omega)]; omega), hX, shrk X v (by omega), if_neg (fun e => hz (by exact_mod_cast e)), w64 (by omega) (by omega)]
          rfl
    refine ev1 (fun k => ?_) (inner (widthOf l - w) w (by omega) (Nat.le_refl _))
    rw [P.lecternref03_Width.l0, if_pos (by omega)]
theorem width_ev (l : List Int) (hl : l.length ≤ 4611686018427387904) (h : ∀ x ∈ l, 0 ≤ x ∧ x < 18446744073709551616) : Ev (fun k => P.lecternref03_Width.f k l) ((widthOf l : Nat) : Int) :=
  width_l0 l hl h l.length 0 0 (by omega) (Nat.zero_le _) (fun j hj => by omega)
end Go.Proofs.Ytimlgpfcgklddaa
/-
The document's Bits, against the plain words.
-/
namespace Go.Proofs.Ytimlgpfcgklddaa
open Go.RowKit Go.Proofs.YtimlgpfcgklddaaW.PrintWords Go.Proofs.YtimlgpfcgklddaaW.PrintLast
set_option linter.unusedVariables false
theorem shl8 (r : Nat) (h : r < 8) : shl .u8 1 (IntKind.u64.wrap (r : Int)) = ((2 ^ r : Nat) : Int) := by
  rw [u64w (by omega) (by omega)]
  have : ∀ r : Fin 8, shl .u8 1 ((r.val : Nat) : Int) = ((2 ^ r.val : Nat) : Int) := by decide +kernel
  exact this ⟨r, h⟩
theorem and1 (Z : Nat) (h : Z < 18446744073709551616) : bits .and .u64 (Z : Int) 1 = ((Z % 2 : Nat) : Int) := by
  have := bits_mask .u64 64 (Nat.le_refl _) (fun n h0 h1 => by rw [wrap_u64]; omega) 1 (by omega) (Z : Int) (by omega) (by omega)
  rw [show ((2 : Int) ^ 1 - 1) = 1 from rfl, show ((2 : Int) ^ 1) = 2 from rfl] at this
  rw [this]
  omega
/-- The number that i numbers and k bits of the next one make. -/
def accN (w : Nat) (l : List Int) (i X k : Nat) : Nat := packN w (l.take i) + X % 2 ^ k * 2 ^ (w * i)
theorem tm8 (a : Nat) : Int.tmod (a : Int) 8 = ((a % 8 : Nat) : Int) := by rw [Int.tmod_eq_emod_of_nonneg (by omega)]; omega
theorem td8 (a : Nat) : Int.tdiv (a : Int) 8 = ((a / 8 : Nat) : Int) := by rw [Int.tdiv_eq_ediv_of_nonneg (by omega)]; omega
theorem w64n (k : Nat) (h : k ≤ 9223372036854775807) : wrap64 (k : Int) = (k : Int) := w64 (by omega) (by omega)
theorem w64s (k : Nat) (h : k < 9223372036854775807) : wrap64 ((k : Int) + 1) = ((k + 1 : Nat) : Int) := by rw [w64 (x := (k : Int) + 1) (by omega) (by omega)]; omega
theorem wr_nn (k : Nat) (h : k < 18446744073709551616) : 0 ≤ IntKind.u64.wrap (k : Int) := by rw [u64w (by omega) (by omega)]; omega
theorem bits_row (l : List Int) (w i k a V : Nat) (HV : Aside0 (V < 2 ^ a)) (hw : w ≤ 64) (hkw : k < w) (hi : i < l.length) (ha : a ≤ 134217728) (f : Nat) : P.lecternref03_Bits.l1 (f + 1) l w (leB ((a + 7) / 8) V) (a : Int) i k = (if Go.bits .and .u64 (shr .u64 (rd l i) (IntKind.u64.wrap (k : Int))) 1 = 1 then P.lecternref03_Bits.l1 f l w ((leB (a / 8 + 1) V).set (a / 8) (Go.bits .or .u8 (rd (leB (a / 8 + 1) V) ((a / 8 : Nat) : Int)) (shl .u8 1 (IntKind.u64.wrap ((a % 8 : Nat) : Int))))) ((a + 1 : Nat) : Int) i ((k + 1 : Nat) : Int) else P.lecternref03_Bits.l1 f l w (leB (a / 8 + 1) V) ((a + 1 : Nat) : Int) i ((k + 1 : Nat) : Int)) := by
  rw [P.lecternref03_Bits.l1, if_pos (by omega), tm8, td8, w64n (a / 8) (by omega), w64s a (by omega), w64s k (by omega)]
  by_cases h0 : a % 8 = 0
  · have e1 : leB ((a + 7) / 8) (V) ++ [0] = leB (a / 8 + 1) (V) := by
      rw [show (a + 7) / 8 = a / 8 from by omega]
      unfold leB
      rw [List.range_succ, List.map_append]
      congr 1
      rw [List.map_cons, List.map_nil]
      have : V / 256 ^ (a / 8) = 0 := Nat.div_eq_of_lt (by
        rw [show (256 : Nat) = 2 ^ 8 from rfl, ← Nat.pow_mul, show 8 * (a / 8) = a from by omega]
        exact HV.out)
      rw [this]
      rfl
    rw [if_pos (by omega), if_pos (by rw [leB_length]; omega), e1, Option.bind_some, if_pos (by omega), if_pos (by omega), if_pos (wr_nn k (by omega))]
    by_cases hB : Go.bits .and .u64 (shr .u64 (rd l i) (IntKind.u64.wrap (k : Int))) 1 = 1
    · rw [if_pos hB, if_pos hB, if_pos (Int.natCast_nonneg _), leB_length, if_pos (by omega), if_pos (wr_nn (a % 8) (by omega)), Int.toNat_natCast]
    · rw [if_neg hB, if_neg hB]
  · rw [if_neg (by omega), if_pos (by omega), if_pos (by omega), if_pos (wr_nn k (by omega))]
    rw [show (a + 7) / 8 = a / 8 + 1 from by omega]
    by_cases hB : Go.bits .and .u64 (shr .u64 (rd l i) (IntKind.u64.wrap (k : Int))) 1 = 1
    · rw [if_pos hB, if_pos hB, if_pos (Int.natCast_nonneg _), leB_length, if_pos (by omega), if_pos (wr_nn (a % 8) (by omega)), Int.toNat_natCast]
    · rw [if_neg hB, if_neg hB]
theorem bits_l1 (l : List Int) (w : Nat) (hw : w ≤ 64) (hl : l.length ≤ 1048576) (h : ∀ x ∈ l, 0 ≤ x ∧ x < 18446744073709551616) (i X : Nat) (hi : i < l.length) (hX : rd l (i : Int) = (X : Int)) (hX64 : X < 18446744073709551616) (hP : packN w (l.take i) < 2 ^ (w * i)) (r : List Int) (hk : Ev (fun k => P.lecternref03_Bits.l0 k l w (leB ((w * i + w + 7) / 8) (accN w l i X w)) ((w * i + w : Nat) : Int) ((i + 1 : Nat) : Int)) r) :
    ∀ (d k : Nat), k + d = w → Ev (fun f => P.lecternref03_Bits.l1 f l w (leB ((w * i + k + 7) / 8) (accN w l i X k)) ((w * i + k : Nat) : Int) i k) r
  | 0, k, hd => by
    have e : k = w := by omega
    subst e
    refine ev1 (fun f => ?_) hk
    rw [P.lecternref03_Bits.l1, if_neg (by omega), w64 (by omega) (by omega)]
    rfl
  | d + 1, k, hd => by
    have ih := bits_l1 l w hw hl h i X hi hX hX64 hP r hk d (k + 1) (by omega)
    have hwi : w * i ≤ 64 * 1048576 := Nat.mul_le_mul hw (by omega)
    obtain ⟨a, ha⟩ : ∃ a, w * i + k = a := ⟨_, rfl⟩
    have ha2 : w * i + (k + 1) = a + 1 := by omega
    rw [ha2] at ih
    rw [ha]
    have hV : accN w l i X k < 2 ^ a := by
      unfold accN
      have h3 : X % 2 ^ k + 1 ≤ 2 ^ k := Nat.mod_lt _ (Nat.pow_pos (by decide))
      have h4 : (X % 2 ^ k + 1) * 2 ^ (w * i) ≤ 2 ^ k * 2 ^ (w * i) := Nat.mul_le_mul_right _ h3
      rw [← Nat.pow_add, Nat.add_comm k, ha, Nat.add_mul, Nat.one_mul] at h4
      omega
    -- the row with its byte at hand
    have hrow := bits_row l w i k a (accN w l i X k) ⟨hV⟩ hw (by omega) hi (by omega)
    have hb := bits_round (a / 8 + 1) (packN w (l.take i)) X (w * i) k 1 hP (by omega) (by omega)
    rw [ha] at hb
    have hacc : packN w (l.take i) + X % 2 ^ k * 2 ^ (w * i) = accN w l i X k := rfl
    rw [hacc] at hb
    have hacc1 : packN w (l.take i) + X % 2 ^ (k + 1) * 2 ^ (w * i) = accN w l i X (k + 1) := rfl
    rw [hacc1] at hb
    have hbit : Go.bits .and .u64 (shr .u64 (rd l i) (IntKind.u64.wrap (k : Int))) 1 = ((X / 2 ^ k % 2 : Nat) : Int) := by
      rw [hX, shrk X k (by omega)]
      exact and1 _ (Nat.lt_of_le_of_lt (Nat.div_le_self _ _) hX64)
    have hrdd : rd (leB (a / 8 + 1) (accN w l i X k)) ((a / 8 : Nat) : Int) = ((accN w l i X k / 256 ^ (a / 8) % 256 : Nat) : Int) := by
      unfold rd
      rw [Int.toNat_natCast]
      exact leB_rd _ _ _ (by omega)
    rw [show (a + 1 + 7) / 8 = a / 8 + 1 from by omega] at ih
    refine ev1 (fun f => ?_) ih
    rw [hrow f, hbit]
    have h1 := hb.1
    rw [show (2 : Nat) ^ 1 = 2 from rfl] at h1
    rcases Nat.mod_two_eq_zero_or_one (X / 2 ^ k) with hz | hz
    · rw [hz, if_neg (by decide)]
      simp only [hz, Nat.zero_mul, Nat.add_zero] at h1
      have h2 : (leB (a / 8 + 1) (accN w l i X k)).set (a / 8) ((accN w l i X k / 256 ^ (a / 8) % 256 : Nat) : Int) = leB (a / 8 + 1) (accN w l i X k) := by
        apply List.ext_getElem?
        intro j
        rw [List.getElem?_set]
        split
        · rename_i hj
          subst hj
          rw [leB_length, if_pos (by omega), leB_get _ _ _ (by omega)]
        · rfl
      rw [h1, h2]
    · rw [hz, if_pos (by decide), hrdd, shl8 (a % 8) (by omega)]
      rw [hz, Nat.one_mul] at h1
      have hlow := hb.2
      have h8 := (pow_le8 (t := a % 8) (by omega))
      have hp : 2 ^ (a % 8) * 2 ≤ 256 := by
        rw [← Nat.pow_succ]
        exact (pow_le8 (t := a % 8 + 1) (by omega)).2
      have h3 := or_low (c := 1) hlow
      rw [Nat.one_mul] at h3
      rw [or_u8 _ _ (by omega) (by omega), h3, h1]
theorem bits_l0 (l : List Int) (w : Nat) (hw : w ≤ 64) (hl : l.length ≤ 1048576) (h : ∀ x ∈ l, 0 ≤ x ∧ x < 18446744073709551616) (hfit : ∀ x ∈ l, x.toNat < 2 ^ w) : ∀ (d i : Nat), i + d = l.length → Ev (fun k => P.lecternref03_Bits.l0 k l w (leB ((w * i + 7) / 8) (packN w (l.take i))) ((w * i : Nat) : Int) i) (leB ((w * l.length + 7) / 8) (packN w l))
  | 0, i, hi => by
    have e : i = l.length := by omega
    subst e
    rw [List.take_length]
    refine ev1 (f := fun _ => some _) (fun k => ?_) (Ev.now _)
    rw [P.lecternref03_Bits.l0, if_neg (by omega)]
  | d + 1, i, hi => by
    have hlt : i < l.length := by omega
    obtain ⟨X, hX, hX64, hXm⟩ := rd_nn h hlt
    have hXf := hfit _ hXm
    rw [Int.toNat_natCast] at hXf
    have ih := bits_l0 l w hw hl h hfit d (i + 1) (by omega)
    have hP : packN w (l.take i) < 2 ^ (w * i) := by
      have := packN_lt w (l.take i) (fun x hx => hfit x (List.mem_of_mem_take hx))
      rw [List.length_take, Nat.min_eq_left (by omega)] at this
      exact this
    have htk : packN w (l.take (i + 1)) = accN w l i X w := by
      rw [take_rd l i hlt, packN_snoc, List.length_take, Nat.min_eq_left (by omega)]
      unfold accN
      have : (l.getD i 0).toNat = X := by
        have : l.getD i 0 = rd l (i : Int) := by unfold rd; rw [Int.toNat_natCast]
        rw [this, hX, Int.toNat_natCast]
      rw [this, Nat.mod_eq_of_lt hXf]
    rw [htk, Nat.mul_succ] at ih
    have h1 := bits_l1 l w hw hl h i X hlt hX hX64 hP _ ih w 0 (by omega)
    have h0 : accN w l i X 0 = packN w (l.take i) := by unfold accN; rw [Nat.pow_zero, Nat.mod_one, Nat.zero_mul, Nat.add_zero]
    rw [h0, Nat.add_zero] at h1
    refine ev1 (fun k => ?_) h1
    rw [P.lecternref03_Bits.l0, if_pos (by omega)]
    rfl
theorem bits_ev (l : List Int) (w : Nat) (hw : w ≤ 64) (hl : l.length ≤ 1048576) (h : ∀ x ∈ l, 0 ≤ x ∧ x < 18446744073709551616) (hfit : ∀ x ∈ l, x.toNat < 2 ^ w) : Ev (fun k => P.lecternref03_Bits.f k l w) (leB ((w * l.length + 7) / 8) (packN w l)) := by
  have := bits_l0 l w hw hl h hfit l.length 0 (by omega)
  rw [Nat.mul_zero, List.take_zero] at this
  have e1 : ∀ k, P.lecternref03_Bits.f k l w = P.lecternref03_Bits.j0 k l w [] false := fun k => by
    unfold P.lecternref03_Bits.f
    rw [if_neg (by omega), decide_eq_false (by omega)]
  refine Ev.congr e1 (ev1 (fun k => ?_) this)
  rw [P.lecternref03_Bits.j0, if_neg (by decide)]
  rfl
end Go.Proofs.Ytimlgpfcgklddaa
/-
The document's rows of numbers, against the plain words.
-/
namespace Go.Proofs.Ytimlgpfcgklddaa
open Go.RowKit Go.Proofs.YtimlgpfcgklddaaW.PrintWords Go.Proofs.YtimlgpfcgklddaaW.PrintLast
set_option linter.unusedVariables false
theorem rd_getD (l : List Int) (i : Nat) : rd l (i : Int) = l.getD i 0 := by unfold rd; rw [Int.toNat_natCast]
theorem one_l0 (l : List Int) (hl : l.length ≤ 1048576) (r : List Int) (hk : Ev (fun k => P.lecternref03_one.l1 k l (minI l) [] 0) r) : ∀ (d i : Nat), i + d = l.length → 1 ≤ i → Ev (fun k => P.lecternref03_one.l0 k l (minI (l.take i)) i) r
  | 0, i, hi, h1 => by
    have e : i = l.length := by omega
    subst e
    rw [List.take_length]
    refine ev1 (fun k => ?_) hk
    rw [P.lecternref03_one.l0, if_neg (by omega)]
  | d + 1, i, hi, h1 => by
    have hlt : i < l.length := by omega
    have ih := one_l0 l hl r hk d (i + 1) (by omega) (by omega)
    have hne : l.take i ≠ [] := by intro e; have := congrArg List.length e; rw [List.length_take, List.length_nil] at this; omega
    rw [take_rd l i hlt, minI_snoc _ hne] at ih
    refine ev1 (fun k => ?_) ih
    rw [P.lecternref03_one.l0, if_pos (by omega), if_pos (by omega), rd_getD, w64s i (by omega)]
    by_cases hc : l.getD i 0 < minI (l.take i)
    · rw [if_pos hc, if_pos hc]
    · rw [if_neg hc, if_neg hc]
def tailOf (l : List Int) (w : Nat) (ab : List Int) : List Int := uv (zz (minI l)) ++ [(w : Int)] ++ leB ((w * ab.length + 7) / 8) (packN w ab)
theorem one_l1 (l : List Int) (hl : l.length ≤ 1048576) (h1 : 1 ≤ l.length) (hr : ∀ x ∈ l, -9223372036854775808 ≤ x ∧ x ≤ 9223372036854775807) : ∀ (d i : Nat), i + d = l.length → Ev (fun k => P.lecternref03_one.l1 k l (minI l) ((above l).take i) i) (packOne l)
  | 0, i, hi => by
    have e : i = l.length := by omega
    subst e
    rw [← above_length l, List.take_length, above_length]
    have hm : -9223372036854775808 ≤ minI l ∧ minI l ≤ 9223372036854775807 := hr _ (minI_mem l (by intro e; rw [e] at h1; simp at h1))
    have hz := zz_range hm.1 hm.2
    have hu := uv_len (u := zz (minI l)) hz.2
    have hw := widthOf_le (above l)
    have e1 : ((widthOf (above l) : Nat) : Int) % 256 = ((widthOf (above l) : Nat) : Int) := by omega
    have hal := above_length l
    have hbl : (leB ((widthOf (above l) * (above l).length + 7) / 8) (packN (widthOf (above l)) (above l))).length ≤ 8388609 := by
      rw [leB_length, hal]
      have : widthOf (above l) * l.length ≤ 64 * 1048576 := Nat.mul_le_mul hw hl
      omega
    have hb := bits_ev (above l) (widthOf (above l)) hw (by omega) (above_range l) (fun x hx => (width_fits (above l) (above_range l) x hx).2)
    have ht := turned_eq (minI l) hm.1 hm.2
    have hU := uint_ev (zz (minI l)) hz.1 hz.2
    have hW := width_ev (above l) (by omega) (above_range l)
    refine ev1 (f := fun k => (P.lecternref03_Width.f k (above l)).bind fun t194 => ((P.lecternref02_Turned.f (minI l)).bind fun t195 => ((P.lecternref02_Uint.f k t195).bind fun t196 => (if t196.length < 140737488355328 then ((some (t196 ++ [(t194) % 256] : List Int)).bind fun y199 => ((P.lecternref03_Bits.f k (above l) t194).bind fun t202 => (if y199.length + t202.length < 140737488355328 then (some (y199 ++ t202)) else (none)))) else (none))))) (fun k => ?_) ?_
    · rw [P.lecternref03_one.l1, if_neg (by omega)]
    · refine Ev.bind hW ?_
      rw [ht]
      refine Ev.bind (g := fun _ => some (zz (minI l))) (Ev.now _) ?_
      refine Ev.bind hU ?_
      have hlen : (uv (zz (minI l))).length < 140737488355328 := by omega
      refine Ev.congr (fun n => if_pos hlen) ?_
      refine Ev.bind (g := fun _ => some _) (Ev.now _) ?_
      refine Ev.bind hb ?_
      rw [e1, hal]
      rw [hal] at hbl
      refine Ev.congr (f := fun _ => some (packOne l)) (fun k => ?_) (Ev.now _)
      rw [if_pos (by rw [List.length_append, List.length_singleton]; omega)]
      rfl
  | d + 1, i, hi => by
    have hlt : i < l.length := by omega
    have ih := one_l1 l hl h1 hr d (i + 1) (by omega)
    have hal := above_length l
    have e : (above l).take (i + 1) = (above l).take i ++ [(l.getD i 0 - minI l) % 18446744073709551616] := by
      rw [take_rd (above l) i (by omega)]
      congr 2
      unfold above
      simp [List.getD_eq_getElem?_getD, hlt]
    rw [e] at ih
    refine ev1 (fun k => ?_) ih
    have e2 : IntKind.u64.wrap ((IntKind.u64.wrap (rd l i)) - (IntKind.u64.wrap (minI l))) = (l.getD i 0 - minI l) % 18446744073709551616 := by
      rw [rd_getD, wrap_u64, wrap_u64, wrap_u64]
      omega
    rw [P.lecternref03_one.l1, if_pos (by omega), if_pos (by omega), if_pos (by rw [List.length_take]; omega), e2, w64s i (by omega)]
theorem one_ev (l : List Int) (hl : l.length ≤ 1048576) (h1 : 1 ≤ l.length) (hr : ∀ x ∈ l, -9223372036854775808 ≤ x ∧ x ≤ 9223372036854775807) : Ev (fun k => P.lecternref03_one.f k l) (packOne l) := by
  have ha := one_l1 l hl h1 hr l.length 0 (by omega)
  rw [List.take_zero] at ha
  have hb := one_l0 l hl _ ha (l.length - 1) 1 (by omega) (Nat.le_refl _)
  have e0 : minI (l.take 1) = rd l 0 := by
    rw [show (0 : Int) = ((0 : Nat) : Int) from rfl, rd_getD]
    cases l with
    | nil => simp at h1
    | cons x r => rfl
  rw [e0] at hb
  refine Ev.congr (f := fun k => P.lecternref03_one.l0 k l (rd l 0) 0) (fun k => ?_) (ev1 (fun k => ?_) hb)
  · unfold P.lecternref03_one.f
    rw [if_pos (by omega)]
  · rw [P.lecternref03_one.l0, if_pos (by omega), if_pos (by omega), if_neg (Int.lt_irrefl _), show wrap64 (0 + 1) = ((1 : Nat) : Int) from by rw [w64 (by omega) (by omega)]; rfl]
def packFrom (l : List Int) (m j : Nat) : List Int := (List.range m).flatMap fun t => packOne (chunkOf 128 l (j + t))
theorem packFrom_succ (l : List Int) (m j : Nat) : packFrom l (m + 1) j = packOne (chunkOf 128 l j) ++ packFrom l m (j + 1) := by
  unfold packFrom
  rw [List.range_succ_eq_map, List.flatMap_cons, List.flatMap_map, Nat.add_zero]
  congr 2
  funext t
  rw [show j + (t + 1) = j + 1 + t from by omega]
theorem put_l0 (l : List Int) (hl : l.length ≤ 1048576) (hr : ∀ x ∈ l, -9223372036854775808 ≤ x ∧ x ≤ 9223372036854775807) : ∀ (m j : Nat) (acc : List Int), j + m = (l.length + 127) / 128 → acc.length ≤ 2000 * j → Ev (fun k => P.lecternref03_Put.l0 k l acc ((128 * j : Nat) : Int)) (acc ++ packFrom l m j)
  | 0, j, acc, h, ha => by
    have e : packFrom l 0 j = [] := rfl
    rw [e, List.append_nil]
    refine ev1 (f := fun _ => some _) (fun k => ?_) (Ev.now _)
    rw [P.lecternref03_Put.l0, if_neg (by omega)]
  | m + 1, j, acc, h, ha => by
    have hlt : 128 * j < l.length := by omega
    have hcl : (chunkOf 128 l j).length = min 128 (l.length - 128 * j) := by unfold chunkOf; rw [List.length_take, List.length_drop, Nat.mul_comm j]
    have hcr : ∀ x ∈ chunkOf 128 l j, -9223372036854775808 ≤ x ∧ x ≤ 9223372036854775807 := fun x hx => hr x (List.mem_of_mem_drop (List.mem_of_mem_take hx))
    have hol := packOne_len (chunkOf 128 l j) hcr
    have ho := one_ev (chunkOf 128 l j) (by omega) (by omega) hcr
    have ih := put_l0 l hl hr m (j + 1) (acc ++ packOne (chunkOf 128 l j)) (by omega) (by rw [List.length_append]; omega)
    rw [packFrom_succ, ← List.append_assoc]
    have hstep : Ev (fun k => (P.lecternref03_one.f k (chunkOf 128 l j)).bind fun t => (if acc.length + t.length < 140737488355328 then P.lecternref03_Put.l0 k l (acc ++ t) (((128 * j : Nat) : Int) + 128) else none)) (acc ++ packOne (chunkOf 128 l j) ++ packFrom l m (j + 1)) := by
      refine Ev.bind ho ?_
      refine Ev.congr (fun k => ?_) ih
      rw [if_pos (by omega), show ((128 * j : Nat) : Int) + 128 = ((128 * (j + 1) : Nat) : Int) from by omega]
    refine ev1 (fun k => ?_) hstep
    have e1 : wrap64 (((128 * j : Nat) : Int) + 128) = ((128 * j : Nat) : Int) + 128 := w64 (by omega) (by omega)
    rw [P.lecternref03_Put.l0, if_pos (by omega), e1]
    by_cases hg : ((128 * j : Nat) : Int) + 128 > l.length
    · rw [if_pos hg, if_pos (by omega), if_pos (by omega), if_pos (Int.le_refl _)]
      have e2 : (l.take ((l.length : Int) : Int).toNat).drop (((128 * j : Nat) : Int) : Int).toNat = chunkOf 128 l j := by
        rw [Int.toNat_natCast, Int.toNat_natCast, List.take_length]
        unfold chunkOf
        rw [Nat.mul_comm j, List.take_of_length_le (by rw [List.length_drop]; omega)]
      rw [e2]
    · rw [if_neg hg, if_pos (by omega), if_pos (by omega), if_pos (by omega)]
      have e2 : (l.take (((128 * j : Nat) : Int) + 128).toNat).drop (((128 * j : Nat) : Int) : Int).toNat = chunkOf 128 l j := by
        rw [Int.toNat_natCast, show (((128 * j : Nat) : Int) + 128).toNat = 128 * j + 128 from by omega]
        unfold chunkOf
        rw [List.drop_take, Nat.mul_comm j, Nat.add_sub_cancel_left]
      rw [e2]
theorem put_ev (l : List Int) (hl : l.length ≤ 1048576) (hr : ∀ x ∈ l, -9223372036854775808 ≤ x ∧ x ≤ 9223372036854775807) : Ev (fun k => P.lecternref03_Put.f k l) (packPut l) := by
  have := put_l0 l hl hr ((l.length + 127) / 128) 0 [] (by omega) (by simp)
  have e : packFrom l ((l.length + 127) / 128) 0 = packPut l := by
    unfold packFrom packPut
    congr 1
    funext t
    rw [Nat.zero_add]
  rw [List.nil_append, e] at this
  exact this
end Go.Proofs.Ytimlgpfcgklddaa
/-
A packed row is read back.
-/
namespace Go.Proofs.Ytimlgpfcgklddaa
open Go.RowKit
set_option linter.unusedVariables false
theorem above_eq {xs : List Int} (hne : xs ≠ []) (hr : ∀ x ∈ xs, -9223372036854775808 ≤ x ∧ x ≤ 9223372036854775807) : above xs = xs.map (fun x => x - minI xs) := by
  unfold above
  apply List.map_congr_left
  intro x hx
  have h1 := minI_le xs x hx
  have h2 := hr _ (minI_mem xs hne)
  have h3 := hr x hx
  omega
theorem getBlk_back (pre rest xs : List Int) (hne : xs ≠ []) (hl : xs.length ≤ 1048576) (hr : ∀ x ∈ xs, -9223372036854775808 ≤ x ∧ x ≤ 9223372036854775807) : getBlk ⟨pre ++ (packOne xs ++ rest), pre.length, 0⟩ xs.length = some (xs, ⟨pre ++ (packOne xs ++ rest), pre.length + (packOne xs).length, 0⟩) := by
  obtain ⟨m, hm⟩ : ∃ m, minI xs = m := ⟨_, rfl⟩
  obtain ⟨ab, hab⟩ : ∃ ab, above xs = ab := ⟨_, rfl⟩
  obtain ⟨w, hw⟩ : ∃ w, widthOf ab = w := ⟨_, rfl⟩
  have hal : ab.length = xs.length := by rw [← hab]; exact above_length xs
  have hae := above_eq hne hr
  rw [hab, hm] at hae
  have hmr := hr _ (minI_mem xs hne)
  rw [hm] at hmr
  have har : ∀ x ∈ ab, 0 ≤ x ∧ x < 18446744073709551616 := by rw [← hab]; exact above_range xs
  have hfit := width_fits ab har
  rw [hw] at hfit
  have hw64 : w ≤ 64 := by rw [← hw]; exact widthOf_le ab
  have hpo : packOne xs = uv (zz m) ++ [(w : Int)] ++ leB ((w * xs.length + 7) / 8) (packN w ab) := by unfold packOne; rw [hab, hw, hm]
  obtain ⟨L, hL⟩ : ∃ L, leB ((w * xs.length + 7) / 8) (packN w ab) = L := ⟨_, rfl⟩
  have hLl : L.length = (w * xs.length + 7) / 8 := by rw [← hL]; exact leB_length _ _
  rw [hL] at hpo
  obtain ⟨U, hU⟩ : ∃ U, uv (zz m) = U := ⟨_, rfl⟩
  have hplt : packN w ab < 2 ^ (w * xs.length) := by have := packN_lt w ab (fun x hx => (hfit x hx).2); rw [hal] at this; exact this
  have hlv : leVal L = packN w ab := by
    rw [← hL]
    refine leVal_of_leB _ _ (Nat.lt_of_lt_of_le hplt ?_)
    rw [show (256 : Nat) = 2 ^ 8 from rfl, ← Nat.pow_mul]
    exact Nat.pow_le_pow_right (by decide) (by omega)
  have e1 : pre ++ (packOne xs ++ rest) = pre ++ (uv (zz m) ++ ([(w : Int)] ++ (L ++ rest))) := by rw [hpo, List.append_assoc, List.append_assoc]
  have e2 : pre ++ (uv (zz m) ++ ([(w : Int)] ++ (L ++ rest))) = (pre ++ uv (zz m)) ++ ([(w : Int)] ++ (L ++ rest)) := by rw [List.append_assoc]
  have e3 : (pre ++ uv (zz m)) ++ ([(w : Int)] ++ (L ++ rest)) = (pre ++ uv (zz m) ++ [(w : Int)]) ++ (L ++ rest) := by simp only [List.append_assoc]
  have r1 := rInt_back pre ([(w : Int)] ++ (L ++ rest)) m hmr.1 hmr.2
  have r2 := rBytes_back (pre ++ uv (zz m)) [(w : Int)] (L ++ rest)
  have r3 := rBytes_back (pre ++ uv (zz m) ++ [(w : Int)]) L rest
  have l2 : (pre ++ uv (zz m)).length = pre.length + (uv (zz m)).length := List.length_append
  have l3 : (pre ++ uv (zz m) ++ [(w : Int)]).length = pre.length + (uv (zz m)).length + 1 := by rw [List.length_append, List.length_append, List.length_singleton]
  rw [← e2, l2] at r2
  rw [← e3, ← e2, l3] at r3
  have hun : unbitsL (packN w ab) w xs.length = ab := by rw [← hal]; exact packN_get w ab hfit
  have hmin : minI ab = 0 := by
    have hz : (0 : Int) ∈ ab := by
      rw [hae]
      exact List.mem_map.2 ⟨m, by rw [← hm]; exact minI_mem xs hne, by omega⟩
    have h1 := minI_le ab 0 hz
    have h2 := (har _ (minI_mem ab (by intro e; rw [e] at hz; cases hz))).1
    omega
  have hlen : (packOne xs).length = (uv (zz m)).length + 1 + L.length := by rw [hpo, List.length_append, List.length_append, List.length_singleton]
  rw [e1]
  unfold getBlk
  dsimp only
  rw [r1]
  dsimp only
  rw [show (([(w : Int)] : List Int).length : Int) = 1 from rfl] at r2
  rw [r2]
  dsimp only
  rw [if_neg (by simp; omega)]
  rw [show (([(w : Int)] : List Int).getD 0 0).toNat = w from by simp, ← hLl, List.length_singleton, r3]
  dsimp only
  rw [hlv, hun, hw, hmin, if_neg (by
    rintro (h | h)
    · exact h rfl
    · exact h (Nat.div_eq_of_lt hplt)), if_neg (by
    rintro (h | h | ⟨u, hu, h⟩)
    · exact h rfl
    · exact h rfl
    · rw [hae] at hu
      obtain ⟨x, hx, rfl⟩ := List.mem_map.1 hu
      have := hr x hx
      omega)]
  congr 2
  · rw [hae, List.map_map]
    conv => rhs; rw [← List.map_id xs]
    apply List.map_congr_left
    intro x _
    simp only [Function.comp, id]
    omega
  · congr 1
    omega
theorem getGo_back (l rest : List Int) (hl : l.length ≤ 1048576) (hr : ∀ x ∈ l, -9223372036854775808 ≤ x ∧ x ≤ 9223372036854775807) : ∀ (m j : Nat) (pre acc : List Int), j + m = (l.length + 127) / 128 → getGo m ⟨pre ++ (packFrom l m j ++ rest), pre.length, 0⟩ (l.length - 128 * j) acc = some (acc ++ l.drop (128 * j), ⟨pre ++ (packFrom l m j ++ rest), pre.length + (packFrom l m j).length, 0⟩)
  | 0, j, pre, acc, h => by
    rw [getGo, List.drop_eq_nil_of_le (by omega), List.append_nil]
    rfl
  | m + 1, j, pre, acc, h => by
    have hlt : 128 * j < l.length := by omega
    have hcl : (chunkOf 128 l j).length = min (l.length - 128 * j) 128 := by unfold chunkOf; rw [List.length_take, List.length_drop, Nat.mul_comm j]; omega
    have hne : chunkOf 128 l j ≠ [] := by intro e; have := congrArg List.length e; rw [hcl, List.length_nil] at this; omega
    have hcr : ∀ x ∈ chunkOf 128 l j, -9223372036854775808 ≤ x ∧ x ≤ 9223372036854775807 := fun x hx => hr x (List.mem_of_mem_drop (List.mem_of_mem_take hx))
    have hb := getBlk_back pre (packFrom l m (j + 1) ++ rest) (chunkOf 128 l j) hne (by omega) hcr
    have ih := getGo_back l rest hl hr m (j + 1) (pre ++ packOne (chunkOf 128 l j)) (acc ++ chunkOf 128 l j) (by omega)
    rw [packFrom_succ, List.append_assoc, getGo, ← hcl, hb]
    dsimp only
    rw [List.append_assoc, List.length_append] at ih
    rw [show l.length - 128 * j - (chunkOf 128 l j).length = l.length - 128 * (j + 1) from by omega, ih, List.append_assoc]
    have e : chunkOf 128 l j ++ l.drop (128 * (j + 1)) = l.drop (128 * j) := by
      unfold chunkOf
      rw [Nat.mul_comm j, show 128 * (j + 1) = 128 * j + 128 from by omega, ← List.drop_drop, List.take_append_drop]
    rw [e, List.length_append, Nat.add_assoc]
theorem getF_back (l rest : List Int) (hl : l.length ≤ 1048576) (hr : ∀ x ∈ l, -9223372036854775808 ≤ x ∧ x ≤ 9223372036854775807) : getF (packPut l ++ rest) l.length = some (l, ⟨packPut l ++ rest, (packPut l).length, 0⟩) := by
  have h := getGo_back l rest hl hr ((l.length + 127) / 128) 0 [] [] (by omega)
  have e : packFrom l ((l.length + 127) / 128) 0 = packPut l := by
    unfold packFrom packPut
    congr 1
    funext t
    rw [Nat.zero_add]
  rw [e, List.nil_append, List.nil_append, Nat.mul_zero, Nat.sub_zero, List.drop_zero, List.length_nil, Nat.zero_add] at h
  exact h
theorem rowOf_back (l rest : List Int) (hl : l.length ≤ 1048576) (hr : ∀ x ∈ l, -9223372036854775808 ≤ x ∧ x ≤ 9223372036854775807) : rowOf (packPut l ++ rest) l.length = l ∧ restOf (packPut l ++ rest) l.length = rest := by
  unfold rowOf restOf
  rw [getF_back l rest hl hr]
  exact ⟨rfl, List.drop_left⟩
end Go.Proofs.Ytimlgpfcgklddaa
/-
The document's form of postings, against the plain words.
-/
namespace Go.Proofs.Ytimlgpfcgklddaa
open Go.RowKit Go.Proofs.YtimlgpfcgklddaaW.PrintWords Go.Proofs.YtimlgpfcgklddaaW.PrintLast
set_option linter.unusedVariables false
theorem build_l2 (l : List P.S86) (b : List Int) (last from_ to_ : Int) (docs freqs : List Int) (ahead i : Int) (xs : List Int) (hx : ∀ x ∈ xs, 0 ≤ x ∧ x ≤ 1048576) (hl : xs.length ≤ 1048576) (r : List Int × Int) : ∀ (d j : Nat) (acc : List Int), j + d = xs.length → acc.length + d ≤ 4194304 →
    Ev (fun k => P.lecternref10_Build.l1 k l b last from_ to_ docs freqs (acc ++ diffs (prevOf xs j) (xs.drop j)) ahead (wrap64 (i + 1))) r → Ev (fun k => P.lecternref10_Build.l2 k l b last from_ to_ docs freqs acc ahead i xs j) r
  | 0, j, acc, hj, ha, h => by
    rw [List.drop_eq_nil_of_le (by omega), diffs, List.append_nil] at h
    refine ev1 (fun k => ?_) h
    rw [P.lecternref10_Build.l2, if_neg (by omega)]
  | d + 1, j, acc, hj, ha, h => by
    have hlt : j < xs.length := by omega
    have hmem : ∀ i : Nat, i < xs.length → 0 ≤ rd xs (i : Int) ∧ rd xs (i : Int) ≤ 1048576 := fun i hi => by
      rw [rd_getD, List.getD_eq_getElem?_getD, List.getElem?_eq_getElem hi]
      exact hx _ (List.getElem_mem hi)
    rw [rdd xs j hlt, diffs, ← List.singleton_append, ← List.append_assoc] at h
    have ih := build_l2 l b last from_ to_ docs freqs ahead i xs hx hl r d (j + 1) (acc ++ [rd xs j - prevOf xs j]) (by omega) (by rw [List.length_append, List.length_singleton]; omega) (by rw [prevOf_succ]; exact h)
    refine ev1 (fun k => ?_) ih
    rcases Nat.eq_zero_or_pos j with hz | hz
    · subst hz
      rw [P.lecternref10_Build.l2, if_pos (by omega), if_pos (by omega), if_pos (by omega), if_pos (by omega), w64s 0 (by omega), prevOf_zero, Int.sub_zero]
      rfl
    · have h1 := hmem j hlt
      have h2 := hmem (j - 1) (by omega)
      have e1 : (j : Int) - 1 = ((j - 1 : Nat) : Int) := by omega
      rw [P.lecternref10_Build.l2, if_pos (by omega), if_neg (by omega), if_pos (by omega), e1, w64n (j - 1) (by omega), if_pos (by omega), if_pos (by omega), if_pos (by omega), w64 (by omega) (by omega), w64s j (by omega), prevOf_pos xs hz, e1]
theorem map_getE (l : List P.S86) (i : Nat) (h : i < l.length) : P.rd_T86 l (i : Int) = l[i] := by unfold P.rd_T86; rw [Int.toNat_natCast]; simp [h]
theorem build_l1 (l : List P.S86) (hl : l.length ≤ 16384) (j : Nat) (b : List Int) (ahead : Int) (ok : BlockOk (chunkOf 8 (l.map to58) j) ahead) (hb : b.length ≤ 70368744177664) (to_ : Nat) (hto : to_ = min (8 * j + 8) l.length) (hj : 8 * j ≤ to_) (r : List Int × Int)
    (hk : Ev (fun k => P.lecternref10_Build.l0 k l (b ++ uv ((rowsOf ahead (chunkOf 8 (l.map to58) j)).length : Int) ++ uv ((lastOf ahead ((chunkOf 8 (l.map to58) j).map fun p => p.f0) - ahead) % 18446744073709551616) ++ rowsOf ahead (chunkOf 8 (l.map to58) j)) (lastOf ahead ((chunkOf 8 (l.map to58) j).map fun p => p.f0)) ((8 * (j + 1) : Nat) : Int)) r) :
    ∀ (d i : Nat), i + d = to_ → 8 * j ≤ i → Ev (fun k => P.lecternref10_Build.l1 k l b (lastOf ahead (((chunkOf 8 (l.map to58) j).take (i - 8 * j)).map fun p => p.f0)) ((8 * j : Nat) : Int) to_ (docsOf ahead ((chunkOf 8 (l.map to58) j).take (i - 8 * j))) (freqsOf ((chunkOf 8 (l.map to58) j).take (i - 8 * j))) (placesOf ((chunkOf 8 (l.map to58) j).take (i - 8 * j))) ahead i) r
  | 0, i, hi, hji => by
    have hcl : (chunkOf 8 (l.map to58) j).length = to_ - 8 * j := by
      unfold chunkOf
      rw [List.length_take, List.length_drop, List.length_map, Nat.mul_comm j]
      omega
    rw [List.take_of_length_le (by omega)]
    have e := P.lastOf_ok ok
    obtain ⟨blk, hblk⟩ : ∃ blk, chunkOf 8 (l.map to58) j = blk := ⟨_, rfl⟩
    rw [hblk] at ok hk e hcl ⊢
    have hdl : (docsOf ahead blk).length ≤ 1048576 ∧ ∀ x ∈ docsOf ahead blk, -9223372036854775808 ≤ x ∧ x ≤ 9223372036854775807 := ⟨by unfold docsOf; rw [gaps_length, List.length_map]; omega, fun x hx => by
      have := gaps_range (blk.map fun p => p.f0) (-1) 16383 (fun y hy => by obtain ⟨q, hq, rfl⟩ := List.mem_map.1 hy; have := ok.docs q hq; omega) ahead ok.last0 (by have := ok.last1; omega) x hx
      omega⟩
    have hfl : (freqsOf blk).length ≤ 1048576 ∧ ∀ x ∈ freqsOf blk, -9223372036854775808 ≤ x ∧ x ≤ 9223372036854775807 := ⟨by unfold freqsOf; rw [List.length_map]; omega, fun x hx => by
      unfold freqsOf at hx
      obtain ⟨q, hq, rfl⟩ := List.mem_map.1 hx
      have h1 := ok.tot
      have h2 : q.f1.length ≤ (blk.map fun p => p.f1.length).sum := P.sum_mem_le (List.mem_map.2 ⟨q, hq, rfl⟩)
      omega⟩
    have hpl : (placesOf blk).length ≤ 1048576 ∧ ∀ x ∈ placesOf blk, -9223372036854775808 ≤ x ∧ x ≤ 9223372036854775807 := ⟨by rw [P.places_len]; exact ok.tot, fun x hx => by
      unfold placesOf at hx
      obtain ⟨q, hq, hx⟩ := List.mem_flatMap.1 hx
      have := diffs_range q.f1 0 1048576 (fun y hy => (ok.pos q hq).2 y hy) 0 (by omega) (by omega) x hx
      omega⟩
    have hX := P.packPut_len _ hdl.2
    have hY := P.packPut_len _ hfl.2
    have hZ := P.packPut_len _ hpl.2
    have pX := put_ev _ hdl.1 hdl.2
    have pY := put_ev _ hfl.1 hfl.2
    have pZ := put_ev _ hpl.1 hpl.2
    have hrows : rowsOf ahead blk = packPut (docsOf ahead blk) ++ packPut (freqsOf blk) ++ packPut (placesOf blk) := rfl
    rw [hrows] at hk
    obtain ⟨X, hXe⟩ : ∃ X, packPut (docsOf ahead blk) = X := ⟨_, rfl⟩
    obtain ⟨Y, hYe⟩ : ∃ Y, packPut (freqsOf blk) = Y := ⟨_, rfl⟩
    obtain ⟨Z, hZe⟩ : ∃ Z, packPut (placesOf blk) = Z := ⟨_, rfl⟩
    obtain ⟨en, hen⟩ : ∃ en, lastOf ahead (blk.map fun p => p.f0) = en := ⟨_, rfl⟩
    rw [hXe] at hX pX hk
    rw [hYe] at hY pY hk
    rw [hZe] at hZ pZ hk
    rw [hen] at e hk ⊢
    have hXb : X.length ≤ 9830400 := Nat.le_trans hX (by have := hdl.1; omega)
    have hYb : Y.length ≤ 9830400 := Nat.le_trans hY (by have := hfl.1; omega)
    have hZb : Z.length ≤ 9830400 := Nat.le_trans hZ (by have := hpl.1; omega)
    have e1 : IntKind.u64.wrap (wrap64 ((wrap64 ((X.length : Int) + (Y.length : Int))) + (Z.length : Int))) = ((X ++ Y ++ Z).length : Int) := by
      rw [w64 (x := (X.length : Int) + Y.length) (by omega) (by omega), w64 (by omega) (by omega), u64w (by omega) (by omega), List.length_append, List.length_append]
      omega
    have hea := ok.last0
    have heb := ok.last1
    have e2 : IntKind.u64.wrap (wrap64 (en - ahead)) = (en - ahead) % 18446744073709551616 := by
      rw [w64 (by omega) (by omega), wrap_u64]
    have U1 := uint_ev ((X ++ Y ++ Z).length : Int) (by omega) (by rw [List.length_append, List.length_append]; omega)
    have U2 := uint_ev ((en - ahead) % 18446744073709551616) (by omega) (by omega)
    have l1 := (uv_len (u := ((X ++ Y ++ Z).length : Int)) (by rw [List.length_append, List.length_append]; omega)).2
    have l2 := (uv_len (u := (en - ahead) % 18446744073709551616) (by omega)).2
    obtain ⟨V1, hV1⟩ : ∃ V, uv ((X ++ Y ++ Z).length : Int) = V := ⟨_, rfl⟩
    obtain ⟨V2, hV2⟩ : ∃ V, uv ((en - ahead) % 18446744073709551616) = V := ⟨_, rfl⟩
    rw [hV1] at U1 l1 hk
    rw [hV2] at U2 l2 hk
    have hstep : Ev (fun k => ((P.lecternref03_Put.f k (docsOf ahead blk)).bind fun t244 => ((P.lecternref03_Put.f k (freqsOf blk)).bind fun t247 => ((P.lecternref03_Put.f k (placesOf blk)).bind fun t250 => ((P.lecternref02_Uint.f k (IntKind.u64.wrap (wrap64 ((wrap64 ((t244.length : Int) + (t247.length : Int))) + (t250.length : Int))))).bind fun t253 => ((P.lecternref02_Uint.f k (IntKind.u64.wrap (wrap64 (en - ahead)))).bind fun t256 => (if b.length + t253.length < 140737488355328 then ((some (b ++ t253 : List Int)).bind fun y259 => (if y259.length + t256.length < 140737488355328 then ((some (y259 ++ t256 : List Int)).bind fun y262 => (if y262.length + t244.length < 140737488355328 then ((some (y262 ++ t244 : List Int)).bind fun y265 => (if y265.length + t247.length < 140737488355328 then ((some (y265 ++ t247 : List Int)).bind fun y268 => (if y268.length + t250.length < 140737488355328 then (P.lecternref10_Build.l0 k l (y268 ++ t250) en (wrap64 (((8 * j : Nat) : Int) + 8))) else (none))) else (none))) else (none))) else (none))) else (none)))))))) r := by
      refine Ev.bind pX (Ev.bind pY (Ev.bind pZ ?_))
      rw [e1, e2]
      refine Ev.bind U1 (Ev.bind U2 ?_)
      have e3 : wrap64 (((8 * j : Nat) : Int) + 8) = ((8 * (j + 1) : Nat) : Int) := by rw [w64 (x := ((8 * j : Nat) : Int) + 8) (by omega) (by omega)]; omega
      refine Ev.congr (fun k => ?_) hk
      rw [if_pos (by omega), Option.bind_some, if_pos (by rw [List.length_append]; omega), Option.bind_some, if_pos (by rw [List.length_append, List.length_append]; omega), Option.bind_some, if_pos (by rw [List.length_append, List.length_append, List.length_append]; omega), Option.bind_some, if_pos (by rw [List.length_append, List.length_append, List.length_append, List.length_append]; omega), e3]
      congr 1
      simp only [List.append_assoc]
    refine ev1 (fun k => ?_) hstep
    rw [P.lecternref10_Build.l1, if_neg (by omega)]
  | d + 1, i, hi, hji => by
    have hlt : i < l.length := by omega
    have ih := build_l1 l hl j b ahead ok hb to_ hto hj r hk d (i + 1) (by omega) (by omega)
    have hcl : (chunkOf 8 (l.map to58) j).length = to_ - 8 * j := by
      unfold chunkOf
      rw [List.length_take, List.length_drop, List.length_map, Nat.mul_comm j]
      omega
    have hge : (chunkOf 8 (l.map to58) j)[i - 8 * j]'(by omega) = to58 l[i] := by
      unfold chunkOf
      rw [List.getElem_take, List.getElem_drop, List.getElem_map]
      congr 2
      omega
    have htk : (chunkOf 8 (l.map to58) j).take (i + 1 - 8 * j) = (chunkOf 8 (l.map to58) j).take (i - 8 * j) ++ [to58 l[i]] := by
      rw [show i + 1 - 8 * j = (i - 8 * j) + 1 from by omega, List.take_succ_eq_append_getElem (by omega), hge]
    have hmem : to58 l[i] ∈ chunkOf 8 (l.map to58) j := by rw [← hge]; exact List.getElem_mem _
    rw [htk] at ih
    obtain ⟨pre, hpre⟩ : ∃ pre, (chunkOf 8 (l.map to58) j).take (i - 8 * j) = pre := ⟨_, rfl⟩
    rw [hpre] at ih htk ⊢
    have hpl : pre.length ≤ 16384 := by rw [← hpre, List.length_take]; omega
    have hsum : (placesOf pre).length + l[i].f1.length ≤ 1048576 := by
      have h1 : (placesOf (pre ++ [to58 l[i]])).length ≤ 1048576 := by
        rw [P.places_len, ← htk, List.map_take]
        exact Nat.le_trans (P.sum_take_le _ _) ok.tot
      unfold placesOf at h1 ⊢
      rw [List.flatMap_append, List.length_append] at h1
      simp only [List.flatMap_cons, List.flatMap_nil, List.append_nil, diffs_length] at h1
      exact h1
    have hla := lastOf_range (pre.map fun p => p.f0) (-1) 16383 (fun y hy => by
      obtain ⟨q, hq, rfl⟩ := List.mem_map.1 hy
      have := ok.docs q (by rw [← hpre] at hq; exact List.mem_of_mem_take hq)
      omega) ahead ok.last0 (by have := ok.last1; omega)
    have hdoc := ok.docs _ hmem
    have hpos := ok.pos _ hmem
    have ed : docsOf ahead (pre ++ [to58 l[i]]) = docsOf ahead pre ++ [l[i].f0 - lastOf ahead (pre.map fun p => p.f0) - 1] := by
      unfold docsOf
      rw [List.map_append, List.map_cons, List.map_nil, gaps_snoc]
      rfl
    have ef : freqsOf (pre ++ [to58 l[i]]) = freqsOf pre ++ [(l[i].f1.length : Int) - 1] := by
      unfold freqsOf
      rw [List.map_append]
      rfl
    have ep : placesOf (pre ++ [to58 l[i]]) = placesOf pre ++ diffs 0 l[i].f1 := by
      unfold placesOf
      rw [List.flatMap_append]
      simp [to58]
    have el : lastOf ahead ((pre ++ [to58 l[i]]).map fun p => p.f0) = l[i].f0 := by
      rw [List.map_append, List.map_cons, List.map_nil, lastOf_snoc]
      rfl
    rw [ed, ef, ep, el] at ih
    have hdl : (docsOf ahead pre).length ≤ 16384 := by unfold docsOf; rw [gaps_length, List.length_map]; exact hpl
    have hfl : (freqsOf pre).length ≤ 16384 := by unfold freqsOf; rw [List.length_map]; exact hpl
    have hdoc2 : 0 ≤ l[i].f0 ∧ l[i].f0 < 16384 := hdoc
    have hpos2 : ∀ x ∈ l[i].f1, 0 ≤ x ∧ x ≤ 1048576 := hpos.2
    obtain ⟨p, hp⟩ : ∃ p, l[i] = p := ⟨_, rfl⟩
    have hge2 := map_getE l i hlt
    rw [hp] at ih hsum hdoc2 hpos2 hge2
    obtain ⟨la, hlae⟩ : ∃ la, lastOf ahead (pre.map fun p => p.f0) = la := ⟨_, rfl⟩
    rw [hlae] at ih hla ⊢
    have h2 := build_l2 l b p.f0 ((8 * j : Nat) : Int) to_ (docsOf ahead pre ++ [p.f0 - la - 1]) (freqsOf pre ++ [(p.f1.length : Int) - 1]) ahead i p.f1 hpos2 (by omega) r p.f1.length 0 (placesOf pre) (by omega) (by omega) (by
      rw [prevOf_zero, List.drop_zero, w64s i (by omega)]
      exact ih)
    refine ev1 (fun k => ?_) h2
    rw [P.lecternref10_Build.l1, if_pos (by omega), if_pos (by omega), if_pos (by omega), if_pos (by omega), if_pos (by omega), hge2, w64 (x := p.f0 - la) (by omega) (by omega), w64 (x := p.f0 - la - 1) (by omega) (by omega), w64 (x := (p.f1.length : Int) - 1) (by omega) (by omega)]
    rfl
end Go.Proofs.Ytimlgpfcgklddaa
