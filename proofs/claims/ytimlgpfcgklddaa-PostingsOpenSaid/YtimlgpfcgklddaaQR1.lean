/-
Texts of this seat, laid together: R1, R2.
-/
import Derived.Test.YtimlgpfcgklddaaQF46
import Derived.Test.YtimlgpfcgklddaaQA15
namespace Go.Proofs.Ytimlgpfcgklddaa
open Go.RowKit Go.Proofs.YtimlgpfcgklddaaW.PrintWords Go.Proofs.YtimlgpfcgklddaaW.PrintLast
set_option linter.unusedVariables false
theorem w64 {x : Int} (h0 : -9223372036854775808 ≤ x) (h1 : x ≤ 9223372036854775807) : wrap64 x = x := by unfold wrap64; omega
/-- Ev, where one round is spent. -/
theorem ev1 {α : Type} {g : Nat → Option α} {f : Nat → Option α} {r : α} (h : ∀ k, g (k + 1) = f k) (k : Ev f r) : Ev g r := Ev.step h k
theorem rdd (l : List Int) (k : Nat) (h : k < l.length) : l.drop k = rd l k :: l.drop (k + 1) := by
  rw [List.drop_eq_getElem_cons h]
  unfold rd
  rw [Int.toNat_natCast, List.getD_eq_getElem?_getD, List.getElem?_eq_getElem h]
  rfl
def to58 (p : P.S86) : P.S58 := ⟨p.f0, p.f1⟩
/-- Positions that are right, one behind another. -/
def chkP : List Int → Int → Bool
  | [], _ => true
  | x :: r, prev => decide (0 ≤ x) && (decide (x ≤ 1048576) && (decide (prev ≤ x) && chkP r x))
def prevOf (xs : List Int) (j : Nat) : Int := if j = 0 then 0 else rd xs ((j : Int) - 1)
theorem prevOf_zero (xs : List Int) : prevOf xs 0 = 0 := rfl
theorem prevOf_pos (xs : List Int) {j : Nat} (h : 0 < j) : prevOf xs j = rd xs ((j : Int) - 1) := if_neg (by omega)
theorem prevOf_succ (xs : List Int) (j : Nat) : prevOf xs (j + 1) = rd xs j := by
  rw [prevOf_pos xs (by omega), show (((j + 1 : Nat) : Int) - 1) = (j : Int) from by omega]
theorem right_l1 (x0 : List P.S86) (x3 x4 x5 : Int) (xs : List Int) (r : Bool) (hl : xs.length ≤ 4611686018427387904) (h : Ev (fun k => P.lecternref10_Right.l0 k x0 x3 x4 (wrap64 (x5 + 1))) r) : ∀ (d j : Nat), j + d = xs.length → Ev (fun k => P.lecternref10_Right.l1 k x0 x3 x4 x5 xs j) (if chkP (xs.drop j) (prevOf xs j) = true then r else false)
  | 0, j, hj => by
    rw [List.drop_eq_nil_of_le (by omega), chkP, if_pos rfl]
    refine ev1 (fun k => ?_) h
    rw [P.lecternref10_Right.l1, if_neg (by omega)]
  | d + 1, j, hj => by
    have ih := right_l1 x0 x3 x4 x5 xs r hl h d (j + 1) (by omega)
    rw [prevOf_succ] at ih
    rw [rdd xs j (by omega), chkP]
    by_cases h0 : rd xs j < 0
    · rw [if_neg (by simp; omega)]
      refine ev1 (f := fun _ => some false) (fun k => ?_) (Ev.now _)
      rw [P.lecternref10_Right.l1, if_pos (by omega), if_pos (by omega), if_pos h0]
    · rw [decide_eq_true (show 0 ≤ rd xs j by omega), Bool.true_and]
      by_cases h1 : rd xs j > 1048576
      · rw [if_neg (by simp; omega)]
        refine ev1 (f := fun _ => some false) (fun k => ?_) (Ev.now _)
        rw [P.lecternref10_Right.l1, if_pos (by omega), if_pos (by omega), if_neg h0, if_pos h1]
      · rw [decide_eq_true (show rd xs j ≤ 1048576 by omega), Bool.true_and]
        rcases Nat.eq_zero_or_pos j with hz | hz
        · subst hz
          rw [prevOf_zero, decide_eq_true (show (0 : Int) ≤ rd xs ((0 : Nat) : Int) by omega), Bool.true_and]
          refine ev1 (fun k => ?_) ih
          rw [P.lecternref10_Right.l1, if_pos (by omega), if_pos (by omega), if_neg h0, if_neg h1, if_neg (by simp), w64 (by omega) (by omega)]
          rfl
        · rw [prevOf_pos xs hz]
          have e1 : wrap64 ((j : Int) - 1) = (j : Int) - 1 := w64 (by omega) (by omega)
          by_cases h2 : rd xs j < rd xs ((j : Int) - 1)
          · rw [if_neg (by simp; omega)]
            refine ev1 (f := fun _ => some false) (fun k => ?_) (Ev.now _)
            rw [P.lecternref10_Right.l1, if_pos (by omega), if_pos (by omega), if_neg h0, if_neg h1, if_pos (by omega), e1, if_pos (by omega), if_pos (by omega), if_pos h2]
          · rw [decide_eq_true (show rd xs ((j : Int) - 1) ≤ rd xs j by omega), Bool.true_and]
            refine ev1 (fun k => ?_) ih
            rw [P.lecternref10_Right.l1, if_pos (by omega), if_pos (by omega), if_neg h0, if_neg h1, if_pos (by omega), e1, if_pos (by omega), if_pos (by omega), if_neg h2, w64 (by omega) (by omega)]
            rfl
theorem chkP_iff : ∀ (l : List Int) (prev : Int), chkP l prev = true ↔ (∀ j : Nat, j < l.length → 0 ≤ l.getD j 0 ∧ l.getD j 0 ≤ 1048576 ∧ (if j = 0 then prev else l.getD (j - 1) 0) ≤ l.getD j 0)
  | [], prev => by simp [chkP]
  | x :: r, prev => by
    rw [chkP, Bool.and_eq_true, Bool.and_eq_true, Bool.and_eq_true, chkP_iff r x]
    simp only [decide_eq_true_iff]
    constructor
    · rintro ⟨h0, h1, h2, h3⟩ j hj
      match j with
      | 0 => simpa using ⟨h0, h1, h2⟩
      | 1 => have := h3 0 (by rw [List.length_cons] at hj; omega); simpa using this
      | j + 2 => have := h3 (j + 1) (by rw [List.length_cons] at hj; omega); simpa using this
    · intro h
      have h0 := h 0 (by simp)
      simp only [List.getD_cons_zero, if_true] at h0
      refine ⟨h0.1, h0.2.1, h0.2.2, fun j hj => ?_⟩
      have := h (j + 1) (by simpa using hj)
      match j with
      | 0 => simpa using this
      | j + 1 => simpa using this
theorem sorted_iff (l : List Int) (hl : 1 ≤ l.length) : (sortedB l && decide (0 ≤ l.getD 0 0) && decide (l.getD (l.length - 1) 0 ≤ 1048576)) = chkP l 0 := by
  rw [Bool.eq_iff_iff, chkP_iff]
  simp only [Bool.and_eq_true, decide_eq_true_iff]
  constructor
  · rintro ⟨⟨h1, h2⟩, h3⟩ j hj
    have hle := sortedTo_le l _ h1
    have ha := hle 0 j (by omega) (by omega)
    have hb := hle j (l.length - 1) (by omega) (Nat.le_refl _)
    refine ⟨by omega, by omega, ?_⟩
    split
    · omega
    · exact hle (j - 1) j (by omega) (by omega)
  · intro h
    have hs : ∀ i, i < l.length → sortedTo l i = true := by
      intro i
      induction i with
      | zero => intro _; rfl
      | succ i ih =>
        intro hi
        rw [sortedTo_succ, ih (by omega), Bool.and_true, decide_eq_true_iff]
        have := (h (i + 1) hi).2.2
        simpa using this
    exact ⟨⟨hs _ (by omega), (h 0 (by omega)).1⟩, (h (l.length - 1) (by omega)).2.1⟩
theorem right_l0 (x0 : List P.S86) (hl : x0.length ≤ 4611686018427387904) (hp : ∀ p ∈ x0, p.f1.length ≤ 4611686018427387904) : ∀ (d i : Nat) (all last : Int), i + d = x0.length → 0 ≤ all → all ≤ 1048576 → Ev (fun k => P.lecternref10_Right.l0 k x0 all last i) (rightB last all ((x0.drop i).map to58))
  | 0, i, all, last, hi, h0, h1 => by
    rw [List.drop_eq_nil_of_le (by omega)]
    refine ev1 (f := fun _ => some true) (fun k => ?_) (Ev.now _)
    rw [P.lecternref10_Right.l0, if_neg (by omega)]
  | d + 1, i, all, last, hi, h0, h1 => by
    have hlt : i < x0.length := by omega
    have he : P.rd_T86 x0 (i : Int) = x0[i] := by unfold P.rd_T86; rw [Int.toNat_natCast]; simp [hlt]
    have hpl := hp _ (List.getElem_mem hlt)
    rw [List.drop_eq_getElem_cons hlt, List.map_cons, rightB]
    obtain ⟨p, hpe⟩ : ∃ p, x0[i] = p := ⟨_, rfl⟩
    rw [hpe] at he hpl ⊢
    have hno : ∀ (b : Bool), (b = true) → Ev (fun k => P.lecternref10_Right.j1 k x0 all i p.f1 b) false := by
      intro b hb
      refine ev1 (f := fun _ => some false) (fun k => ?_) (Ev.now _)
      rw [P.lecternref10_Right.j1, if_pos hb]
    have hpost : postB last all (to58 p) = (decide (last < p.f0) && decide (p.f0 < 16384) && decide (1 ≤ p.f1.length) && decide (all + p.f1.length ≤ 1048576) && (sortedB p.f1 && decide (0 ≤ p.f1.getD 0 0) && decide (p.f1.getD (p.f1.length - 1) 0 ≤ 1048576))) := by
      unfold postB to58
      simp only [Bool.and_assoc]
    rw [hpost]
    by_cases c1 : p.f0 ≤ last
    · rw [decide_eq_false (show ¬ last < p.f0 by omega)]
      simp only [Bool.false_and]
      refine ev1 (fun k => ?_) (hno true rfl)
      rw [P.lecternref10_Right.l0, if_pos (by omega), if_pos (by omega), he, if_pos c1]
    · rw [decide_eq_true (show last < p.f0 by omega), Bool.true_and]
      by_cases c2 : p.f0 ≥ 16384
      · rw [decide_eq_false (show ¬ p.f0 < 16384 by omega)]
        simp only [Bool.false_and]
        refine ev1 (fun k => ?_) (hno true rfl)
        rw [P.lecternref10_Right.l0, if_pos (by omega), if_pos (by omega), he, if_neg c1, if_pos c2]
      · rw [decide_eq_true (show p.f0 < 16384 by omega), Bool.true_and]
        by_cases c3 : (p.f1.length : Int) = 0
        · rw [decide_eq_false (show ¬ 1 ≤ p.f1.length by omega)]
          simp only [Bool.false_and]
          refine ev1 (fun k => ?_) (hno true rfl)
          rw [P.lecternref10_Right.l0, if_pos (by omega), if_pos (by omega), he, if_neg c1, if_neg c2, if_pos c3]
        · rw [decide_eq_true (show 1 ≤ p.f1.length by omega), Bool.true_and]
          have ew : wrap64 (1048576 - all) = 1048576 - all := w64 (by omega) (by omega)
          by_cases c4 : (p.f1.length : Int) > 1048576 - all
          · rw [decide_eq_false (show ¬ all + (p.f1.length : Int) ≤ 1048576 by omega)]
            simp only [Bool.false_and]
            refine ev1 (fun k => ?_) (hno true rfl)
            rw [P.lecternref10_Right.l0, if_pos (by omega), if_pos (by omega), he, if_neg c1, if_neg c2, if_neg c3, ew, decide_eq_true c4]
          · rw [decide_eq_true (show all + (p.f1.length : Int) ≤ 1048576 by omega), Bool.true_and, sorted_iff p.f1 (by omega)]
            have ih := right_l0 x0 hl hp d (i + 1) (all + p.f1.length) p.f0 (by omega) (by omega) (by omega)
            have h2 := right_l1 x0 (all + p.f1.length) p.f0 i p.f1 _ hpl (by rw [w64 (by omega) (by omega)]; exact ih) p.f1.length 0 (by omega)
            rw [prevOf_zero, List.drop_zero] at h2
            have h3 : (chkP p.f1 0 && rightB p.f0 (all + p.f1.length) ((x0.drop (i + 1)).map to58)) = (if chkP p.f1 0 = true then rightB p.f0 (all + p.f1.length) ((x0.drop (i + 1)).map to58) else false) := by
              cases chkP p.f1 0 <;> simp
            show Ev _ (chkP p.f1 0 && rightB p.f0 (all + p.f1.length) ((x0.drop (i + 1)).map to58))
            rw [h3]
            refine ev1 (f := fun k => P.lecternref10_Right.j1 k x0 all i p.f1 false) (fun k => ?_) (ev1 (fun k => ?_) h2)
            · rw [P.lecternref10_Right.l0, if_pos (by omega), if_pos (by omega), he, if_neg c1, if_neg c2, if_neg c3, ew, decide_eq_false c4]
            · rw [P.lecternref10_Right.j1, if_neg (by decide), if_pos (by omega), if_pos (by omega), he, w64 (by omega) (by omega)]
              rfl
theorem right_ev (x0 : List P.S86) (hl : x0.length ≤ 4611686018427387904) (hp : ∀ p ∈ x0, p.f1.length ≤ 4611686018427387904) : Ev (fun k => P.lecternref10_Right.f k x0) (rightB (-1) 0 (x0.map to58)) := by
  have := right_l0 x0 hl hp x0.length 0 0 (-1) (by omega) (by decide) (by decide)
  rw [List.drop_zero] at this
  exact this
theorem u64w {x : Int} (h0 : 0 ≤ x) (h1 : x < 18446744073709551616) : IntKind.u64.wrap x = x := by rw [wrap_u64]; omega
theorem shr7 (u j : Nat) (hj : j ≤ 9) : shr .u64 (u : Int) (IntKind.u64.wrap (wrap64 (7 * (j : Int)))) = ((u / 128 ^ j : Nat) : Int) := by
  rw [w64 (by omega) (by omega), u64w (by omega) (by omega)]
  show (u : Int) / 2 ^ min (7 * (j : Int)).toNat 64 = _
  have e : (2 : Int) ^ (7 * j) = ((128 ^ j : Nat) : Int) := by rw [Int.pow_mul, show (2 : Int) ^ 7 = ((128 : Nat) : Int) from rfl, Int.natCast_pow]
  rw [show min (7 * (j : Int)).toNat 64 = 7 * j from by omega, e]
  exact (Int.natCast_ediv u (128 ^ j)).symm
theorem uint_l1 (u K : Nat) (hK : K ≤ 10) (hg : ∀ i, i < K → (i + 1 < K ↔ 127 < u / 128 ^ i)) : ∀ (d i : Nat) (acc : List Int), i + d = K → 1 ≤ d → acc.length ≤ 20 * i → Ev (fun k => P.lecternref02_Uint.l1 k u K acc i) (acc ++ uvn (u / 128 ^ i))
  | 0, i, acc, h, h1, _ => by omega
  | d + 1, i, acc, h, h1, ha => by
    have hs := shr7 u i (by omega)
    have hi := hg i (by omega)
    have h7 : 0 ≤ IntKind.u64.wrap (wrap64 (7 * (i : Int))) := by rw [w64 (by omega) (by omega), u64w (by omega) (by omega)]; omega
    have hp1 : u / 128 ^ (i + 1) = u / 128 ^ i / 128 := by rw [Nat.pow_succ, Nat.div_div_eq_div_mul]
    by_cases hb : i + 1 < K
    · have hbig := hi.1 hb
      rw [uvn_big hbig, ← hp1]
      have ih := uint_l1 u K hK hg d (i + 1) (acc ++ [((u / 128 ^ i % 128 + 128 : Nat) : Int)]) (by omega) (by omega) (by rw [List.length_append, List.length_singleton]; omega)
      rw [List.append_assoc] at ih
      refine ev1 (fun k => ?_) ih
      have e : (((u / 128 ^ i : Nat) : Int) % 256 % 128 + 128) = ((u / 128 ^ i % 128 + 128 : Nat) : Int) := by omega
      rw [P.lecternref02_Uint.l1, if_pos (by omega), if_pos h7, w64 (by omega) (by omega), if_pos (by omega), if_pos (by omega), hs, e]
      rfl
    · have hsm : u / 128 ^ i ≤ 127 := by omega
      have hd : d = 0 := by omega
      subst hd
      rw [uvn_small hsm]
      refine ev1 (f := fun k => P.lecternref02_Uint.l1 k u K (acc ++ [((u / 128 ^ i : Nat) : Int)]) ((i + 1 : Nat) : Int)) (fun k => ?_) (ev1 (f := fun _ => some (acc ++ [((u / 128 ^ i : Nat) : Int)])) (fun k => ?_) (Ev.now _))
      · have e : (((u / 128 ^ i : Nat) : Int) % 256 % 128) = ((u / 128 ^ i : Nat) : Int) := (show ∀ q : Nat, q ≤ 127 → ((q : Int) % 256 % 128) = (q : Int) from fun q h => by omega) _ hsm
        rw [P.lecternref02_Uint.l1, if_pos (by omega), if_pos h7, w64 (by omega) (by omega), if_neg (by omega), if_pos (by omega), hs, e]
        rfl
      · rw [P.lecternref02_Uint.l1, if_neg (by omega)]
theorem uint_l0 (u : Nat) (hu : u < 18446744073709551616) : ∀ (d j : Nat), j + d = 10 → 1 ≤ j → (∀ i, 1 ≤ i → i < j → 0 < u / 128 ^ i) → Ev (fun k => P.lecternref02_Uint.l0 k u j) (uvn u)
  | d, j, h, h1, hpos => by
    have hdiv : ∀ i, u / 128 ^ (i + 1) = u / 128 ^ i / 128 := fun i => by rw [Nat.pow_succ, Nat.div_div_eq_div_mul]
    have fin : (∀ i, i < j → (i + 1 < j ↔ 127 < u / 128 ^ i)) → Ev (fun k => P.lecternref02_Uint.j1 k u j) (uvn u) := fun hg => by
      have := uint_l1 u j (by omega) hg j 0 [] (by omega) h1 (by simp)
      rw [Nat.pow_zero, Nat.div_one, List.nil_append] at this
      refine ev1 (fun k => ?_) this
      rw [P.lecternref02_Uint.j1]
      rfl
    match d with
    | 0 =>
      have hj : j = 10 := by omega
      subst hj
      refine ev1 (fun k => ?_) (fin fun i hi => ⟨fun h2 => by have := hpos (i + 1) (by omega) h2; rw [hdiv] at this; omega, fun h2 => by
        rcases Nat.lt_or_ge (i + 1) 10 with h3 | h3
        · exact h3
        · have : i = 9 := by omega
          subst this
          have h4 : u / 128 ^ 9 < 2 := by rw [Nat.div_lt_iff_lt_mul (by decide)]; exact Nat.lt_of_lt_of_le hu (by decide)
          omega⟩)
      rw [P.lecternref02_Uint.l0, if_neg (by decide)]
    | d + 1 =>
      have h7 : 0 ≤ IntKind.u64.wrap (wrap64 (7 * (j : Int))) := by rw [w64 (by omega) (by omega), u64w (by omega) (by omega)]; omega
      have hs := shr7 u j (by omega)
      by_cases hz : u / 128 ^ j = 0
      · refine ev1 (fun k => ?_) (fin fun i hi => ⟨fun h2 => by have := hpos (i + 1) (by omega) h2; rw [hdiv] at this; omega, fun h2 => by
          rcases Nat.lt_or_ge (i + 1) j with h3 | h3
          · exact h3
          · have e : j = i + 1 := by omega
            rw [e, hdiv] at hz
            omega⟩)
        rw [P.lecternref02_Uint.l0, if_pos (by omega), if_pos h7, hs, if_neg (by omega)]
      · have ih := uint_l0 u hu d (j + 1) (by omega) (by omega) (fun i h2 h3 => by
          rcases Nat.lt_or_ge i j with h4 | h4
          · exact hpos i h2 h4
          · have e : i = j := by omega
            rw [e]; exact Nat.pos_of_ne_zero hz)
        refine ev1 (fun k => ?_) ih
        rw [P.lecternref02_Uint.l0, if_pos (by omega), if_pos h7, hs, if_pos (Int.natCast_pos.2 (Nat.pos_of_ne_zero hz)), w64 (by omega) (by omega)]
        rfl
theorem uint_ev (n : Int) (h0 : 0 ≤ n) (h1 : n < 18446744073709551616) : Ev (fun k => P.lecternref02_Uint.f k n) (uv n) := by
  obtain ⟨u, rfl⟩ := Int.eq_ofNat_of_zero_le h0
  have := uint_l0 u (by omega) 9 1 (by omega) (by omega) (fun i h2 h3 => by omega)
  unfold uv
  rw [Int.toNat_natCast]
  exact this
theorem turned_eq (n : Int) (h0 : -9223372036854775808 ≤ n) (h1 : n ≤ 9223372036854775807) : P.lecternref02_Turned.f n = some (zz n) := by
  unfold P.lecternref02_Turned.f zz
  by_cases h : n ≥ 0
  · rw [if_pos h, if_pos h, u64w (x := n) (by omega) (by omega), u64w (by omega) (by omega)]
  · rw [if_neg h, if_neg h, w64 (x := n + 1) (by omega) (by omega), w64 (by omega) (by omega), u64w (x := -(n + 1)) (by omega) (by omega), u64w (x := 2 * _) (by omega) (by omega), u64w (by omega) (by omega)]
    congr 1
    omega
end Go.Proofs.Ytimlgpfcgklddaa
