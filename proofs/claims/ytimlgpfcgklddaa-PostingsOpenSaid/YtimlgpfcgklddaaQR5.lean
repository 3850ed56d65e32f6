/-
Texts of this seat, laid together: R5, M11, O6.
-/
import Derived.Test.YtimlgpfcgklddaaQF78
import Derived.Test.YtimlgpfcgklddaaQO3
import Derived.Test.YtimlgpfcgklddaaQO5
namespace Go.Proofs.Ytimlgpfcgklddaa
open Go.RowKit Go.Proofs.YtimlgpfcgklddaaW.PrintWords Go.Proofs.YtimlgpfcgklddaaW.PrintLast
set_option linter.unusedVariables false
theorem rd_getD (l : List Int) (i : Nat) : rd l (i : Int) = l.getD i 0 := by unfold rd; rw [Int.toNat_natCast]
theorem one_l0 (l : List Int) (hl : l.length ≤ 1048576) (r : List Int) (hk : Ev (fun k => P.lecternref03_one.l1 k l (minI l) [] 0) r) : ∀ (d i : Nat), i + d = l.length → 1 ≤ i → Ev (fun k => P.lecternref03_one.l0 k l (minI (l.take i)) i) r
  | 0, i, hi, h1 => by
    have e : i = l.length := by omega
    subst e
    rw [List.take_length]
    refine ev1 (fun k => ?_) hk
    rw [P.lecternref03_one.l0, if_neg (by omega)]
  | d + 1, i, hi, h1 => by
    have hlt : i < l.length := by omega
    have ih := one_l0 l hl r hk d (i + 1) (by omega) (by omega)
    have hne : l.take i ≠ [] := by intro e; have := congrArg List.length e; rw [List.length_take, List.length_nil] at this; omega
    rw [take_rd l i hlt, minI_snoc _ hne] at ih
    refine ev1 (fun k => ?_) ih
    rw [P.lecternref03_one.l0, if_pos (by omega), if_pos (by omega), rd_getD, w64s i (by omega)]
    by_cases hc : l.getD i 0 < minI (l.take i)
    · rw [if_pos hc, if_pos hc]
    · rw [if_neg hc, if_neg hc]
theorem one_l1 (l : List Int) (hl : l.length ≤ 1048576) (h1 : 1 ≤ l.length) (hr : ∀ x ∈ l, -9223372036854775808 ≤ x ∧ x ≤ 9223372036854775807) : ∀ (d i : Nat), i + d = l.length → Ev (fun k => P.lecternref03_one.l1 k l (minI l) ((above l).take i) i) (packOne l)
  | 0, i, hi => by
    have e : i = l.length := by omega
    subst e
    rw [← above_length l, List.take_length, above_length]
    have hm : -9223372036854775808 ≤ minI l ∧ minI l ≤ 9223372036854775807 := hr _ (minI_mem l (by intro e; rw [e] at h1; simp at h1))
    have hz := zz_range hm.1 hm.2
    have hu := uv_len (u := zz (minI l)) hz.2
    have hw := widthOf_le (above l)
    have e1 : ((widthOf (above l) : Nat) : Int) % 256 = ((widthOf (above l) : Nat) : Int) := by omega
    have hal := above_length l
    have hbl : (leB ((widthOf (above l) * (above l).length + 7) / 8) (packN (widthOf (above l)) (above l))).length ≤ 8388609 := by
      rw [leB_length, hal]
      have : widthOf (above l) * l.length ≤ 64 * 1048576 := Nat.mul_le_mul hw hl
      omega
    have hb := bits_ev (above l) (widthOf (above l)) hw (by omega) (above_range l) (fun x hx => (width_fits (above l) (above_range l) x hx).2)
    have ht := turned_eq (minI l) hm.1 hm.2
    have hU := uint_ev (zz (minI l)) hz.1 hz.2
    have hW := width_ev (above l) (by omega) (above_range l)
    refine ev1 (f := fun k => (P.lecternref03_Width.f k (above l)).bind fun t194 => ((P.lecternref02_Turned.f (minI l)).bind fun t195 => ((P.lecternref02_Uint.f k t195).bind fun t196 => (if t196.length < 140737488355328 then ((some (t196 ++ [(t194) % 256] : List Int)).bind fun y199 => ((P.lecternref03_Bits.f k (above l) t194).bind fun t202 => (if y199.length + t202.length < 140737488355328 then (some (y199 ++ t202)) else (none)))) else (none))))) (fun k => ?_) ?_
    · rw [P.lecternref03_one.l1, if_neg (by omega)]
    · refine Ev.bind hW ?_
      rw [ht]
      refine Ev.bind (g := fun _ => some (zz (minI l))) (Ev.now _) ?_
      refine Ev.bind hU ?_
      have hlen : (uv (zz (minI l))).length < 140737488355328 := by omega
      refine Ev.congr (fun n => if_pos hlen) ?_
      refine Ev.bind (g := fun _ => some _) (Ev.now _) ?_
      refine Ev.bind hb ?_
      rw [e1, hal]
      rw [hal] at hbl
      refine Ev.congr (f := fun _ => some (packOne l)) (fun k => ?_) (Ev.now _)
      rw [if_pos (by rw [List.length_append, List.length_singleton]; omega)]
      rfl
  | d + 1, i, hi => by
    have hlt : i < l.length := by omega
    have ih := one_l1 l hl h1 hr d (i + 1) (by omega)
    have hal := above_length l
    have e : (above l).take (i + 1) = (above l).take i ++ [(l.getD i 0 - minI l) % 18446744073709551616] := by
      rw [take_rd (above l) i (by omega)]
      congr 2
      unfold above
      simp [List.getD_eq_getElem?_getD, hlt]
    rw [e] at ih
    refine ev1 (fun k => ?_) ih
    have e2 : IntKind.u64.wrap ((IntKind.u64.wrap (rd l i)) - (IntKind.u64.wrap (minI l))) = (l.getD i 0 - minI l) % 18446744073709551616 := by
      rw [rd_getD, wrap_u64, wrap_u64, wrap_u64]
      omega
    rw [P.lecternref03_one.l1, if_pos (by omega), if_pos (by omega), if_pos (by rw [List.length_take]; omega), e2, w64s i (by omega)]
theorem one_ev (l : List Int) (hl : l.length ≤ 1048576) (h1 : 1 ≤ l.length) (hr : ∀ x ∈ l, -9223372036854775808 ≤ x ∧ x ≤ 9223372036854775807) : Ev (fun k => P.lecternref03_one.f k l) (packOne l) := by
  have ha := one_l1 l hl h1 hr l.length 0 (by omega)
  rw [List.take_zero] at ha
  have hb := one_l0 l hl _ ha (l.length - 1) 1 (by omega) (Nat.le_refl _)
  have e0 : minI (l.take 1) = rd l 0 := by
    rw [show (0 : Int) = ((0 : Nat) : Int) from rfl, rd_getD]
    cases l with
    | nil => simp at h1
    | cons x r => rfl
  rw [e0] at hb
  refine Ev.congr (f := fun k => P.lecternref03_one.l0 k l (rd l 0) 0) (fun k => ?_) (ev1 (fun k => ?_) hb)
  · unfold P.lecternref03_one.f
    rw [if_pos (by omega)]
  · rw [P.lecternref03_one.l0, if_pos (by omega), if_pos (by omega), if_neg (Int.lt_irrefl _), show wrap64 (0 + 1) = ((1 : Nat) : Int) from by rw [w64 (by omega) (by omega)]; rfl]
def packFrom (l : List Int) (m j : Nat) : List Int := (List.range m).flatMap fun t => packOne (chunkOf 128 l (j + t))
theorem packFrom_succ (l : List Int) (m j : Nat) : packFrom l (m + 1) j = packOne (chunkOf 128 l j) ++ packFrom l m (j + 1) := by
  unfold packFrom
  rw [List.range_succ_eq_map, List.flatMap_cons, List.flatMap_map, Nat.add_zero]
  congr 2
  funext t
  rw [show j + (t + 1) = j + 1 + t from by omega]
theorem put_l0 (l : List Int) (hl : l.length ≤ 1048576) (hr : ∀ x ∈ l, -9223372036854775808 ≤ x ∧ x ≤ 9223372036854775807) : ∀ (m j : Nat) (acc : List Int), j + m = (l.length + 127) / 128 → acc.length ≤ 2000 * j → Ev (fun k => P.lecternref03_Put.l0 k l acc ((128 * j : Nat) : Int)) (acc ++ packFrom l m j)
  | 0, j, acc, h, ha => by
    have e : packFrom l 0 j = [] := rfl
    rw [e, List.append_nil]
    refine ev1 (f := fun _ => some _) (fun k => ?_) (Ev.now _)
    rw [P.lecternref03_Put.l0, if_neg (by omega)]
  | m + 1, j, acc, h, ha => by
    have hlt : 128 * j < l.length := by omega
    have hcl : (chunkOf 128 l j).length = min 128 (l.length - 128 * j) := by unfold chunkOf; rw [List.length_take, List.length_drop, Nat.mul_comm j]
    have hcr : ∀ x ∈ chunkOf 128 l j, -9223372036854775808 ≤ x ∧ x ≤ 9223372036854775807 := fun x hx => hr x (List.mem_of_mem_drop (List.mem_of_mem_take hx))
    have hol := packOne_len (chunkOf 128 l j) hcr
    have ho := one_ev (chunkOf 128 l j) (by omega) (by omega) hcr
    have ih := put_l0 l hl hr m (j + 1) (acc ++ packOne (chunkOf 128 l j)) (by omega) (by rw [List.length_append]; omega)
    rw [packFrom_succ, ← List.append_assoc]
    have hstep : Ev (fun k => (P.lecternref03_one.f k (chunkOf 128 l j)).bind fun t => (if acc.length + t.length < 140737488355328 then P.lecternref03_Put.l0 k l (acc ++ t) (((128 * j : Nat) : Int) + 128) else none)) (acc ++ packOne (chunkOf 128 l j) ++ packFrom l m (j + 1)) := by
      refine Ev.bind ho ?_
      refine Ev.congr (fun k => ?_) ih
      rw [if_pos (by omega), show ((128 * j : Nat) : Int) + 128 = ((128 * (j + 1) : Nat) : Int) from by omega]
    refine ev1 (fun k => ?_) hstep
    have e1 : wrap64 (((128 * j : Nat) : Int) + 128) = ((128 * j : Nat) : Int) + 128 := w64 (by omega) (by omega)
    rw [P.lecternref03_Put.l0, if_pos (by omega), e1]
    by_cases hg : ((128 * j : Nat) : Int) + 128 > l.length
    · rw [if_pos hg, if_pos (by omega), if_pos (by omega), if_pos (Int.le_refl _)]
      have e2 : (l.take ((l.length : Int) : Int).toNat).drop (((128 * j : Nat) : Int) : Int).toNat = chunkOf 128 l j := by
        rw [Int.toNat_natCast, Int.toNat_natCast, List.take_length]
        unfold chunkOf
        rw [Nat.mul_comm j, List.take_of_length_le (by rw [List.length_drop]; omega)]
      rw [e2]
    · rw [if_neg hg, if_pos (by omega), if_pos (by omega), if_pos (by omega)]
      have e2 : (l.take (((128 * j : Nat) : Int) + 128).toNat).drop (((128 * j : Nat) : Int) : Int).toNat = chunkOf 128 l j := by
        rw [Int.toNat_natCast, show (((128 * j : Nat) : Int) + 128).toNat = 128 * j + 128 from by omega]
        unfold chunkOf
        rw [List.drop_take, Nat.mul_comm j, Nat.add_sub_cancel_left]
      rw [e2]
theorem put_ev (l : List Int) (hl : l.length ≤ 1048576) (hr : ∀ x ∈ l, -9223372036854775808 ≤ x ∧ x ≤ 9223372036854775807) : Ev (fun k => P.lecternref03_Put.f k l) (packPut l) := by
  have := put_l0 l hl hr ((l.length + 127) / 128) 0 [] (by omega) (by simp)
  have e : packFrom l ((l.length + 127) / 128) 0 = packPut l := by
    unfold packFrom packPut
    congr 1
    funext t
    rw [Nat.zero_add]
  rw [List.nil_append, e] at this
  exact this
open Go.RowKit
theorem above_eq {xs : List Int} (hne : xs ≠ []) (hr : ∀ x ∈ xs, -9223372036854775808 ≤ x ∧ x ≤ 9223372036854775807) : above xs = xs.map (fun x => x - minI xs) := by
  unfold above
  apply List.map_congr_left
  intro x hx
  have h1 := minI_le xs x hx
  have h2 := hr _ (minI_mem xs hne)
  have h3 := hr x hx
  omega
theorem getBlk_back (pre rest xs : List Int) (hne : xs ≠ []) (hl : xs.length ≤ 1048576) (hr : ∀ x ∈ xs, -9223372036854775808 ≤ x ∧ x ≤ 9223372036854775807) : getBlk ⟨pre ++ (packOne xs ++ rest), pre.length, 0⟩ xs.length = some (xs, ⟨pre ++ (packOne xs ++ rest), pre.length + (packOne xs).length, 0⟩) := by
  obtain ⟨m, hm⟩ : ∃ m, minI xs = m := ⟨_, rfl⟩
  obtain ⟨ab, hab⟩ : ∃ ab, above xs = ab := ⟨_, rfl⟩
  obtain ⟨w, hw⟩ : ∃ w, widthOf ab = w := ⟨_, rfl⟩
  have hal : ab.length = xs.length := by rw [← hab]; exact above_length xs
  have hae := above_eq hne hr
  rw [hab, hm] at hae
  have hmr := hr _ (minI_mem xs hne)
  rw [hm] at hmr
  have har : ∀ x ∈ ab, 0 ≤ x ∧ x < 18446744073709551616 := by rw [← hab]; exact above_range xs
  have hfit := width_fits ab har
  rw [hw] at hfit
  have hw64 : w ≤ 64 := by rw [← hw]; exact widthOf_le ab
  have hpo : packOne xs = uv (zz m) ++ [(w : Int)] ++ leB ((w * xs.length + 7) / 8) (packN w ab) := by unfold packOne; rw [hab, hw, hm]
  obtain ⟨L, hL⟩ : ∃ L, leB ((w * xs.length + 7) / 8) (packN w ab) = L := ⟨_, rfl⟩
  have hLl : L.length = (w * xs.length + 7) / 8 := by rw [← hL]; exact leB_length _ _
  rw [hL] at hpo
  obtain ⟨U, hU⟩ : ∃ U, uv (zz m) = U := ⟨_, rfl⟩
  have hplt : packN w ab < 2 ^ (w * xs.length) := by have := packN_lt w ab (fun x hx => (hfit x hx).2); rw [hal] at this; exact this
  have hlv : leVal L = packN w ab := by
    rw [← hL]
    refine leVal_of_leB _ _ (Nat.lt_of_lt_of_le hplt ?_)
    rw [show (256 : Nat) = 2 ^ 8 from rfl, ← Nat.pow_mul]
    exact Nat.pow_le_pow_right (by decide) (by omega)
  have e1 : pre ++ (packOne xs ++ rest) = pre ++ (uv (zz m) ++ ([(w : Int)] ++ (L ++ rest))) := by rw [hpo, List.append_assoc, List.append_assoc]
  have e2 : pre ++ (uv (zz m) ++ ([(w : Int)] ++ (L ++ rest))) = (pre ++ uv (zz m)) ++ ([(w : Int)] ++ (L ++ rest)) := by rw [List.append_assoc]
  have e3 : (pre ++ uv (zz m)) ++ ([(w : Int)] ++ (L ++ rest)) = (pre ++ uv (zz m) ++ [(w : Int)]) ++ (L ++ rest) := by simp only [List.append_assoc]
  have r1 := rInt_back pre ([(w : Int)] ++ (L ++ rest)) m hmr.1 hmr.2
  have r2 := rBytes_back (pre ++ uv (zz m)) [(w : Int)] (L ++ rest)
  have r3 := rBytes_back (pre ++ uv (zz m) ++ [(w : Int)]) L rest
  have l2 : (pre ++ uv (zz m)).length = pre.length + (uv (zz m)).length := List.length_append
  have l3 : (pre ++ uv (zz m) ++ [(w : Int)]).length = pre.length + (uv (zz m)).length + 1 := by rw [List.length_append, List.length_append, List.length_singleton]
  rw [← e2, l2] at r2
  rw [← e3, ← e2, l3] at r3
  have hun : unbitsL (packN w ab) w xs.length = ab := by rw [← hal]; exact packN_get w ab hfit
  have hmin : minI ab = 0 := by
    have hz : (0 : Int) ∈ ab := by
      rw [hae]
      exact List.mem_map.2 ⟨m, by rw [← hm]; exact minI_mem xs hne, by omega⟩
    have h1 := minI_le ab 0 hz
    have h2 := (har _ (minI_mem ab (by intro e; rw [e] at hz; cases hz))).1
    omega
  have hlen : (packOne xs).length = (uv (zz m)).length + 1 + L.length := by rw [hpo, List.length_append, List.length_append, List.length_singleton]
  rw [e1]
  unfold getBlk
  dsimp only
  rw [r1]
  dsimp only
  rw [show (([(w : Int)] : List Int).length : Int) = 1 from rfl] at r2
  rw [r2]
  dsimp only
  rw [if_neg (by simp; omega)]
  rw [show (([(w : Int)] : List Int).getD 0 0).toNat = w from by simp, ← hLl, List.length_singleton, r3]
  dsimp only
  rw [hlv, hun, hw, hmin, if_neg (by
    rintro (h | h)
    · exact h rfl
    · exact h (Nat.div_eq_of_lt hplt)), if_neg (by
    rintro (h | h | ⟨u, hu, h⟩)
    · exact h rfl
    · exact h rfl
    · rw [hae] at hu
      obtain ⟨x, hx, rfl⟩ := List.mem_map.1 hu
      have := hr x hx
      omega)]
  congr 2
  · rw [hae, List.map_map]
    conv => rhs; rw [← List.map_id xs]
    apply List.map_congr_left
    intro x _
    simp only [Function.comp, id]
    omega
  · congr 1
    omega
theorem getGo_back (l rest : List Int) (hl : l.length ≤ 1048576) (hr : ∀ x ∈ l, -9223372036854775808 ≤ x ∧ x ≤ 9223372036854775807) : ∀ (m j : Nat) (pre acc : List Int), j + m = (l.length + 127) / 128 → getGo m ⟨pre ++ (packFrom l m j ++ rest), pre.length, 0⟩ (l.length - 128 * j) acc = some (acc ++ l.drop (128 * j), ⟨pre ++ (packFrom l m j ++ rest), pre.length + (packFrom l m j).length, 0⟩)
  | 0, j, pre, acc, h => by
    rw [getGo, List.drop_eq_nil_of_le (by omega), List.append_nil]
    rfl
  | m + 1, j, pre, acc, h => by
    have hlt : 128 * j < l.length := by omega
    have hcl : (chunkOf 128 l j).length = min (l.length - 128 * j) 128 := by unfold chunkOf; rw [List.length_take, List.length_drop, Nat.mul_comm j]; omega
    have hne : chunkOf 128 l j ≠ [] := by intro e; have := congrArg List.length e; rw [hcl, List.length_nil] at this; omega
    have hcr : ∀ x ∈ chunkOf 128 l j, -9223372036854775808 ≤ x ∧ x ≤ 9223372036854775807 := fun x hx => hr x (List.mem_of_mem_drop (List.mem_of_mem_take hx))
    have hb := getBlk_back pre (packFrom l m (j + 1) ++ rest) (chunkOf 128 l j) hne (by omega) hcr
    have ih := getGo_back l rest hl hr m (j + 1) (pre ++ packOne (chunkOf 128 l j)) (acc ++ chunkOf 128 l j) (by omega)
    rw [packFrom_succ, List.append_assoc, getGo, ← hcl, hb]
    dsimp only
    rw [List.append_assoc, List.length_append] at ih
    rw [show l.length - 128 * j - (chunkOf 128 l j).length = l.length - 128 * (j + 1) from by omega, ih, List.append_assoc]
    have e : chunkOf 128 l j ++ l.drop (128 * (j + 1)) = l.drop (128 * j) := by
      unfold chunkOf
      rw [Nat.mul_comm j, show 128 * (j + 1) = 128 * j + 128 from by omega, ← List.drop_drop, List.take_append_drop]
    rw [e, List.length_append, Nat.add_assoc]
theorem getF_back (l rest : List Int) (hl : l.length ≤ 1048576) (hr : ∀ x ∈ l, -9223372036854775808 ≤ x ∧ x ≤ 9223372036854775807) : getF (packPut l ++ rest) l.length = some (l, ⟨packPut l ++ rest, (packPut l).length, 0⟩) := by
  have h := getGo_back l rest hl hr ((l.length + 127) / 128) 0 [] [] (by omega)
  have e : packFrom l ((l.length + 127) / 128) 0 = packPut l := by
    unfold packFrom packPut
    congr 1
    funext t
    rw [Nat.zero_add]
  rw [e, List.nil_append, List.nil_append, Nat.mul_zero, Nat.sub_zero, List.drop_zero, List.length_nil, Nat.zero_add] at h
  exact h
theorem rowOf_back (l rest : List Int) (hl : l.length ≤ 1048576) (hr : ∀ x ∈ l, -9223372036854775808 ≤ x ∧ x ≤ 9223372036854775807) : rowOf (packPut l ++ rest) l.length = l ∧ restOf (packPut l ++ rest) l.length = rest := by
  unfold rowOf restOf
  rw [getF_back l rest hl hr]
  exact ⟨rfl, List.drop_left⟩
/-- A block of k numbers at the head of bytes; how many bytes it has. -/
def gBlk (ds : List Int) (k : Nat) : Option (List Int × Nat) :=
  let a := qInt ⟨ds, 0, 0⟩
  let b := rBytes a.2 1
  if b.2.e ≠ 0 ∨ b.1.getD 0 0 > 64 then none else
  let wd := (b.1.getD 0 0).toNat
  let d := rBytes b.2 (((wd * k + 7) / 8 : Nat) : Int)
  if d.2.e ≠ 0 then none else
  match unbitsF d.1 wd k with
  | none => none
  | some ab => if packOne (ab.map fun u => wrap64 (a.1 + u)) = ds.take d.2.at' then some (ab.map fun u => wrap64 (a.1 + u), d.2.at') else none
def gGo (bs : List Int) : Nat → Nat → Nat → List Int → Option (List Int × Nat)
  | 0, at0, _, l => some (l, at0)
  | m + 1, at0, n, l =>
    match gBlk (bs.drop at0) (min n 128) with
    | none => none
    | some (xs, d) => gGo bs m (at0 + d) (n - min n 128) (l ++ xs)
def gF (bs : List Int) (n : Nat) : Option (List Int × Nat) := gGo bs ((n + 127) / 128) 0 n []
theorem qNum_ok {s : RSt} (h : s.ok) : (qNum s).2.ok := by
  have h1 := numR_facts (s.bs.drop s.at')
  have hle := h.le
  refine took_ok h ?_
  have h2 := h1.2.2.2.2
  rw [List.length_drop] at h2
  unfold qnum
  split
  · show (-1 : Int) ≤ _; omega
  · omega
theorem qInt_ok {s : RSt} (h : s.ok) : (qInt s).2.ok := qNum_ok h
theorem qInt_bs (s : RSt) : (qInt s).2.bs = s.bs := qNum_bs s
theorem qInt_range (s : RSt) : -9223372036854775808 ≤ (qInt s).1 ∧ (qInt s).1 ≤ 9223372036854775807 := by
  have h := P.qNum_range s
  exact unz_range h.1 h.2
theorem wrap64_range (x : Int) : -9223372036854775808 ≤ wrap64 x ∧ wrap64 x ≤ 9223372036854775807 := by unfold wrap64; omega
theorem gBlk_facts {ds : List Int} {k : Nat} {xs : List Int} {m : Nat} (hok : (⟨ds, 0, 0⟩ : RSt).ok) (h : gBlk ds k = some (xs, m)) : xs.length = k ∧ m ≤ ds.length ∧ ∀ x ∈ xs, -9223372036854775808 ≤ x ∧ x ≤ 9223372036854775807 := by
  unfold gBlk at h
  dsimp only at h
  have h1 := qInt_ok hok
  have e1 := qInt_bs (⟨ds, 0, 0⟩ : RSt)
  obtain ⟨le, s1, hq⟩ : ∃ le s1, qInt ⟨ds, 0, 0⟩ = (le, s1) := ⟨_, _, rfl⟩
  rw [hq] at h h1 e1
  dsimp only at h h1 e1
  have h2 := rBytes_ok h1 1
  have e2 := rBytes_bs s1 1
  obtain ⟨wb, s2, hb⟩ : ∃ wb s2, rBytes s1 1 = (wb, s2) := ⟨_, _, rfl⟩
  rw [hb] at h h2 e2
  dsimp only at h h2 e2
  split at h
  · cases h
  · have h3 := rBytes_ok h2 ((((wb.getD 0 0).toNat * k + 7) / 8 : Nat) : Int)
    have e3 := rBytes_bs s2 ((((wb.getD 0 0).toNat * k + 7) / 8 : Nat) : Int)
    obtain ⟨z, s3, hz⟩ : ∃ z s3, rBytes s2 ((((wb.getD 0 0).toNat * k + 7) / 8 : Nat) : Int) = (z, s3) := ⟨_, _, rfl⟩
    rw [hz] at h h3 e3
    dsimp only at h h3 e3
    split at h
    · cases h
    · split at h
      · cases h
      · rename_i ab hab
        split at h
        · injection h with h
          injection h with hx hm
          subst hx; subst hm
          refine ⟨?_, ?_, ?_⟩
          · rw [List.length_map]
            unfold unbitsF at hab
            split at hab
            · cases hab
            · split at hab
              · cases hab
              · injection hab with hab
                rw [← hab]
                simp [unbitsL]
          · have := h3.le
            rw [e3, e2, e1] at this
            exact this
          · intro x hx
            obtain ⟨u, _, rfl⟩ := List.mem_map.1 hx
            exact wrap64_range _
        · cases h
theorem gGo_facts {bs : List Int} (hl : bs.length ≤ 140737488355328) (hb : ∀ x ∈ bs, 0 ≤ x ∧ x < 256) : ∀ (m at0 n : Nat) (l r : List Int) (e : Nat), at0 ≤ bs.length → m = (n + 127) / 128 → (∀ x ∈ l, -9223372036854775808 ≤ x ∧ x ≤ 9223372036854775807) → gGo bs m at0 n l = some (r, e) → r.length = l.length + n ∧ e ≤ bs.length ∧ ∀ x ∈ r, -9223372036854775808 ≤ x ∧ x ≤ 9223372036854775807
  | 0, at0, n, l, r, e, ha, hm, hr, h => by
    rw [gGo] at h
    injection h with h
    injection h with h1 h2
    subst h1; subst h2
    exact ⟨by omega, ha, hr⟩
  | m + 1, at0, n, l, r, e, ha, hm, hr, h => by
    rw [gGo] at h
    split at h
    · cases h
    · rename_i xs d hbk
      have hf := gBlk_facts ⟨Nat.zero_le _, by rw [List.length_drop]; omega, fun x hx => hb x (List.mem_of_mem_drop hx)⟩ hbk
      rw [List.length_drop] at hf
      have := gGo_facts hl hb m (at0 + d) (n - min n 128) (l ++ xs) r e (by omega) (by omega) (fun x hx => by
        rcases List.mem_append.1 hx with hx | hx
        · exact hr x hx
        · exact hf.2.2 x hx) h
      refine ⟨?_, this.2⟩
      rw [this.1, List.length_append, hf.1]
      omega
theorem gF_facts {bs : List Int} {n : Nat} {r : List Int} {e : Nat} (hl : bs.length ≤ 140737488355328) (hb : ∀ x ∈ bs, 0 ≤ x ∧ x < 256) (h : gF bs n = some (r, e)) : r.length = n ∧ e ≤ bs.length ∧ ∀ x ∈ r, -9223372036854775808 ≤ x ∧ x ≤ 9223372036854775807 := by
  have := gGo_facts hl hb _ 0 n [] r e (Nat.zero_le _) rfl (fun x hx => by cases hx) h
  rw [List.length_nil, Nat.zero_add] at this
  exact this
theorem qInt_back (rest : List Int) (x : Int) (h0 : -9223372036854775808 ≤ x) (h1 : x ≤ 9223372036854775807) : qInt ⟨uv (zz x) ++ rest, 0, 0⟩ = (x, ⟨uv (zz x) ++ rest, (uv (zz x)).length, 0⟩) := by
  have hz := zz_range h0 h1
  have hl := uv_len hz.2
  unfold qInt qNum took qnum
  simp only [List.drop_zero]
  have e1 : (if ((uv (zz x)).length : Int) = 0 then ((0 : Int), (-1 : Int)) else (zz x, ((uv (zz x)).length : Int))) = (zz x, ((uv (zz x)).length : Int)) := if_neg (by omega)
  rw [if_neg (by simp), numR_uv hz.1 hz.2]
  dsimp only
  rw [e1, if_neg (by dsimp only; omega)]
  simp only [unz_zz, Int.toNat_natCast, Nat.zero_add]
theorem gBlk_back (rest xs : List Int) (hne : xs ≠ []) (hl : xs.length ≤ 1048576) (hr : ∀ x ∈ xs, -9223372036854775808 ≤ x ∧ x ≤ 9223372036854775807) : gBlk (packOne xs ++ rest) xs.length = some (xs, (packOne xs).length) := by
  obtain ⟨m, hm⟩ : ∃ m, minI xs = m := ⟨_, rfl⟩
  obtain ⟨ab, hab⟩ : ∃ ab, above xs = ab := ⟨_, rfl⟩
  obtain ⟨w, hw⟩ : ∃ w, widthOf ab = w := ⟨_, rfl⟩
  have hal : ab.length = xs.length := by rw [← hab]; exact above_length xs
  have hae := above_eq hne hr
  rw [hab, hm] at hae
  have hmr := hr _ (minI_mem xs hne)
  rw [hm] at hmr
  have har : ∀ x ∈ ab, 0 ≤ x ∧ x < 18446744073709551616 := by rw [← hab]; exact above_range xs
  have hfit := width_fits ab har
  rw [hw] at hfit
  have hw64 : w ≤ 64 := by rw [← hw]; exact widthOf_le ab
  have hpo : packOne xs = uv (zz m) ++ [(w : Int)] ++ leB ((w * xs.length + 7) / 8) (packN w ab) := by unfold packOne; rw [hab, hw, hm]
  obtain ⟨L, hL⟩ : ∃ L, leB ((w * xs.length + 7) / 8) (packN w ab) = L := ⟨_, rfl⟩
  have hLl : L.length = (w * xs.length + 7) / 8 := by rw [← hL]; exact leB_length _ _
  rw [hL] at hpo
  have hplt : packN w ab < 2 ^ (w * xs.length) := by have := packN_lt w ab (fun x hx => (hfit x hx).2); rw [hal] at this; exact this
  have hlv : leVal L = packN w ab := by
    rw [← hL]
    refine leVal_of_leB _ _ (Nat.lt_of_lt_of_le hplt ?_)
    rw [show (256 : Nat) = 2 ^ 8 from rfl, ← Nat.pow_mul]
    exact Nat.pow_le_pow_right (by decide) (by omega)
  have e1 : packOne xs ++ rest = uv (zz m) ++ ([(w : Int)] ++ (L ++ rest)) := by rw [hpo, List.append_assoc, List.append_assoc]
  have e3 : uv (zz m) ++ ([(w : Int)] ++ (L ++ rest)) = (uv (zz m) ++ [(w : Int)]) ++ (L ++ rest) := by simp only [List.append_assoc]
  have r1 := qInt_back ([(w : Int)] ++ (L ++ rest)) m hmr.1 hmr.2
  have r2 := rBytes_back (uv (zz m)) [(w : Int)] (L ++ rest)
  have r3 := rBytes_back (uv (zz m) ++ [(w : Int)]) L rest
  have l3 : (uv (zz m) ++ [(w : Int)]).length = (uv (zz m)).length + 1 := by rw [List.length_append, List.length_singleton]
  rw [← e3, l3] at r3
  have hun : unbitsL (packN w ab) w xs.length = ab := by rw [← hal]; exact packN_get w ab hfit
  have hlen : (packOne xs).length = (uv (zz m)).length + 1 + L.length := by rw [hpo, List.length_append, List.length_append, List.length_singleton]
  have huf : unbitsF L w xs.length = some ab := by
    unfold unbitsF
    rw [if_neg (fun h => h hLl), hlv, if_neg (fun h => h (Nat.div_eq_of_lt hplt)), hun]
  have hmap : (ab.map fun u => wrap64 (m + u)) = xs := by
    rw [hae, List.map_map]
    conv => rhs; rw [← List.map_id xs]
    apply List.map_congr_left
    intro x hx
    have := hr x hx
    simp only [Function.comp, id]
    rw [w64 (by omega) (by omega)]
    omega
  have htk : (packOne xs ++ rest).take ((uv (zz m)).length + 1 + L.length) = packOne xs := by rw [← hlen, List.take_left]
  rw [← e1] at r1 r2 r3
  unfold gBlk
  dsimp only
  rw [r1]
  dsimp only
  rw [show (([(w : Int)] : List Int).length : Int) = 1 from rfl] at r2
  rw [r2]
  dsimp only
  rw [if_neg (by simp; omega)]
  rw [show (([(w : Int)] : List Int).getD 0 0).toNat = w from by simp, ← hLl, List.length_singleton, r3]
  dsimp only
  rw [if_neg (by simp), huf]
  dsimp only
  rw [hmap, htk, if_pos rfl, hlen]
theorem gGo_back (l rest : List Int) (hl : l.length ≤ 1048576) (hr : ∀ x ∈ l, -9223372036854775808 ≤ x ∧ x ≤ 9223372036854775807) : ∀ (m j : Nat) (pre acc : List Int), j + m = (l.length + 127) / 128 → gGo (pre ++ (packFrom l m j ++ rest)) m pre.length (l.length - 128 * j) acc = some (acc ++ l.drop (128 * j), pre.length + (packFrom l m j).length)
  | 0, j, pre, acc, h => by
    rw [gGo, List.drop_eq_nil_of_le (by omega), List.append_nil]
    rfl
  | m + 1, j, pre, acc, h => by
    have hlt : 128 * j < l.length := by omega
    have hcl : (chunkOf 128 l j).length = min (l.length - 128 * j) 128 := by unfold chunkOf; rw [List.length_take, List.length_drop, Nat.mul_comm j]; omega
    have hne : chunkOf 128 l j ≠ [] := by intro e; have := congrArg List.length e; rw [hcl, List.length_nil] at this; omega
    have hcr : ∀ x ∈ chunkOf 128 l j, -9223372036854775808 ≤ x ∧ x ≤ 9223372036854775807 := fun x hx => hr x (List.mem_of_mem_drop (List.mem_of_mem_take hx))
    have hb := gBlk_back (packFrom l m (j + 1) ++ rest) (chunkOf 128 l j) hne (by omega) hcr
    have ih := gGo_back l rest hl hr m (j + 1) (pre ++ packOne (chunkOf 128 l j)) (acc ++ chunkOf 128 l j) (by omega)
    rw [packFrom_succ, List.append_assoc, gGo, ← hcl, List.drop_left, hb]
    dsimp only
    rw [List.append_assoc, List.length_append] at ih
    rw [show l.length - 128 * j - (chunkOf 128 l j).length = l.length - 128 * (j + 1) from by omega, ih, List.append_assoc]
    have e : chunkOf 128 l j ++ l.drop (128 * (j + 1)) = l.drop (128 * j) := by
      unfold chunkOf
      rw [Nat.mul_comm j, show 128 * (j + 1) = 128 * j + 128 from by omega, ← List.drop_drop, List.take_append_drop]
    rw [e, List.length_append, Nat.add_assoc]
theorem gF_back (l rest : List Int) (hl : l.length ≤ 1048576) (hr : ∀ x ∈ l, -9223372036854775808 ≤ x ∧ x ≤ 9223372036854775807) : gF (packPut l ++ rest) l.length = some (l, (packPut l).length) := by
  have h := gGo_back l rest hl hr ((l.length + 127) / 128) 0 [] [] (by omega)
  have e : packFrom l ((l.length + 127) / 128) 0 = packPut l := by
    unfold packFrom packPut
    congr 1
    funext t
    rw [Nat.zero_add]
  rw [e, List.nil_append, List.nil_append, Nat.mul_zero, Nat.sub_zero, List.drop_zero, List.length_nil, Nat.zero_add] at h
  exact h
end Go.Proofs.Ytimlgpfcgklddaa
