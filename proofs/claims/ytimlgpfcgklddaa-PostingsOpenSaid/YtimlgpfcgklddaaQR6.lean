/-
Texts of this seat, laid together: R6, M12, R7.
-/
import Derived.Test.YtimlgpfcgklddaaQF11
import Derived.Test.YtimlgpfcgklddaaQF12
import Derived.Test.YtimlgpfcgklddaaQR5
import Derived.Test.YtimlgpfcgklddaaQD3
namespace Go.Proofs.Ytimlgpfcgklddaa
open Go.RowKit Go.Proofs.YtimlgpfcgklddaaW.PrintWords Go.Proofs.YtimlgpfcgklddaaW.PrintLast
set_option linter.unusedVariables false
theorem build_l2 (l : List P.S86) (b : List Int) (last from_ to_ : Int) (docs freqs : List Int) (ahead i : Int) (xs : List Int) (hx : ∀ x ∈ xs, 0 ≤ x ∧ x ≤ 1048576) (hl : xs.length ≤ 1048576) (r : List Int × Int) : ∀ (d j : Nat) (acc : List Int), j + d = xs.length → acc.length + d ≤ 4194304 →
    Ev (fun k => P.lecternref10_Build.l1 k l b last from_ to_ docs freqs (acc ++ diffs (prevOf xs j) (xs.drop j)) ahead (wrap64 (i + 1))) r → Ev (fun k => P.lecternref10_Build.l2 k l b last from_ to_ docs freqs acc ahead i xs j) r
  | 0, j, acc, hj, ha, h => by
    rw [List.drop_eq_nil_of_le (by omega), diffs, List.append_nil] at h
    refine ev1 (fun k => ?_) h
    rw [P.lecternref10_Build.l2, if_neg (by omega)]
  | d + 1, j, acc, hj, ha, h => by
    have hlt : j < xs.length := by omega
    have hmem : ∀ i : Nat, i < xs.length → 0 ≤ rd xs (i : Int) ∧ rd xs (i : Int) ≤ 1048576 := fun i hi => by
      rw [rd_getD, List.getD_eq_getElem?_getD, List.getElem?_eq_getElem hi]
      exact hx _ (List.getElem_mem hi)
    rw [rdd xs j hlt, diffs, ← List.singleton_append, ← List.append_assoc] at h
    have ih := build_l2 l b last from_ to_ docs freqs ahead i xs hx hl r d (j + 1) (acc ++ [rd xs j - prevOf xs j]) (by omega) (by rw [List.length_append, List.length_singleton]; omega) (by rw [prevOf_succ]; exact h)
    refine ev1 (fun k => ?_) ih
    rcases Nat.eq_zero_or_pos j with hz | hz
    · subst hz
      rw [P.lecternref10_Build.l2, if_pos (by omega), if_pos (by omega), if_pos (by omega), if_pos (by omega), w64s 0 (by omega), prevOf_zero, Int.sub_zero]
      rfl
    · have h1 := hmem j hlt
      have h2 := hmem (j - 1) (by omega)
      have e1 : (j : Int) - 1 = ((j - 1 : Nat) : Int) := by omega
      rw [P.lecternref10_Build.l2, if_pos (by omega), if_neg (by omega), if_pos (by omega), e1, w64n (j - 1) (by omega), if_pos (by omega), if_pos (by omega), if_pos (by omega), w64 (by omega) (by omega), w64s j (by omega), prevOf_pos xs hz, e1]
theorem map_getE (l : List P.S86) (i : Nat) (h : i < l.length) : P.rd_T86 l (i : Int) = l[i] := by unfold P.rd_T86; rw [Int.toNat_natCast]; simp [h]
theorem build_l1 (l : List P.S86) (hl : l.length ≤ 16384) (j : Nat) (b : List Int) (ahead : Int) (ok : BlockOk (chunkOf 8 (l.map to58) j) ahead) (hb : b.length ≤ 70368744177664) (to_ : Nat) (hto : to_ = min (8 * j + 8) l.length) (hj : 8 * j ≤ to_) (r : List Int × Int)
    (hk : Ev (fun k => P.lecternref10_Build.l0 k l (b ++ uv ((rowsOf ahead (chunkOf 8 (l.map to58) j)).length : Int) ++ uv ((lastOf ahead ((chunkOf 8 (l.map to58) j).map fun p => p.f0) - ahead) % 18446744073709551616) ++ rowsOf ahead (chunkOf 8 (l.map to58) j)) (lastOf ahead ((chunkOf 8 (l.map to58) j).map fun p => p.f0)) ((8 * (j + 1) : Nat) : Int)) r) :
    ∀ (d i : Nat), i + d = to_ → 8 * j ≤ i → Ev (fun k => P.lecternref10_Build.l1 k l b (lastOf ahead (((chunkOf 8 (l.map to58) j).take (i - 8 * j)).map fun p => p.f0)) ((8 * j : Nat) : Int) to_ (docsOf ahead ((chunkOf 8 (l.map to58) j).take (i - 8 * j))) (freqsOf ((chunkOf 8 (l.map to58) j).take (i - 8 * j))) (placesOf ((chunkOf 8 (l.map to58) j).take (i - 8 * j))) ahead i) r
  | 0, i, hi, hji => by
    have hcl : (chunkOf 8 (l.map to58) j).length = to_ - 8 * j := by
      unfold chunkOf
      rw [List.length_take, List.length_drop, List.length_map, Nat.mul_comm j]
      omega
    rw [List.take_of_length_le (by omega)]
    have e := P.lastOf_ok ok
    obtain ⟨blk, hblk⟩ : ∃ blk, chunkOf 8 (l.map to58) j = blk := ⟨_, rfl⟩
    rw [hblk] at ok hk e hcl ⊢
    have hdl : (docsOf ahead blk).length ≤ 1048576 ∧ ∀ x ∈ docsOf ahead blk, -9223372036854775808 ≤ x ∧ x ≤ 9223372036854775807 := ⟨by unfold docsOf; rw [gaps_length, List.length_map]; omega, fun x hx => by
      have := gaps_range (blk.map fun p => p.f0) (-1) 16383 (fun y hy => by obtain ⟨q, hq, rfl⟩ := List.mem_map.1 hy; have := ok.docs q hq; omega) ahead ok.last0 (by have := ok.last1; omega) x hx
      omega⟩
    have hfl : (freqsOf blk).length ≤ 1048576 ∧ ∀ x ∈ freqsOf blk, -9223372036854775808 ≤ x ∧ x ≤ 9223372036854775807 := ⟨by unfold freqsOf; rw [List.length_map]; omega, fun x hx => by
      unfold freqsOf at hx
      obtain ⟨q, hq, rfl⟩ := List.mem_map.1 hx
      have h1 := ok.tot
      have h2 : q.f1.length ≤ (blk.map fun p => p.f1.length).sum := P.sum_mem_le (List.mem_map.2 ⟨q, hq, rfl⟩)
      omega⟩
    have hpl : (placesOf blk).length ≤ 1048576 ∧ ∀ x ∈ placesOf blk, -9223372036854775808 ≤ x ∧ x ≤ 9223372036854775807 := ⟨by rw [P.places_len]; exact ok.tot, fun x hx => by
      unfold placesOf at hx
      obtain ⟨q, hq, hx⟩ := List.mem_flatMap.1 hx
      have := diffs_range q.f1 0 1048576 (fun y hy => (ok.pos q hq).2 y hy) 0 (by omega) (by omega) x hx
      omega⟩
    have hX := P.packPut_len _ hdl.2
    have hY := P.packPut_len _ hfl.2
    have hZ := P.packPut_len _ hpl.2
    have pX := put_ev _ hdl.1 hdl.2
    have pY := put_ev _ hfl.1 hfl.2
    have pZ := put_ev _ hpl.1 hpl.2
    have hrows : rowsOf ahead blk = packPut (docsOf ahead blk) ++ packPut (freqsOf blk) ++ packPut (placesOf blk) := rfl
    rw [hrows] at hk
    obtain ⟨X, hXe⟩ : ∃ X, packPut (docsOf ahead blk) = X := ⟨_, rfl⟩
    obtain ⟨Y, hYe⟩ : ∃ Y, packPut (freqsOf blk) = Y := ⟨_, rfl⟩
    obtain ⟨Z, hZe⟩ : ∃ Z, packPut (placesOf blk) = Z := ⟨_, rfl⟩
    obtain ⟨en, hen⟩ : ∃ en, lastOf ahead (blk.map fun p => p.f0) = en := ⟨_, rfl⟩
    rw [hXe] at hX pX hk
    rw [hYe] at hY pY hk
    rw [hZe] at hZ pZ hk
    rw [hen] at e hk ⊢
    have hXb : X.length ≤ 9830400 := Nat.le_trans hX (by have := hdl.1; omega)
    have hYb : Y.length ≤ 9830400 := Nat.le_trans hY (by have := hfl.1; omega)
    have hZb : Z.length ≤ 9830400 := Nat.le_trans hZ (by have := hpl.1; omega)
    have e1 : IntKind.u64.wrap (wrap64 ((wrap64 ((X.length : Int) + (Y.length : Int))) + (Z.length : Int))) = ((X ++ Y ++ Z).length : Int) := by
      rw [w64 (x := (X.length : Int) + Y.length) (by omega) (by omega), w64 (by omega) (by omega), u64w (by omega) (by omega), List.length_append, List.length_append]
      omega
    have hea := ok.last0
    have heb := ok.last1
    have e2 : IntKind.u64.wrap (wrap64 (en - ahead)) = (en - ahead) % 18446744073709551616 := by
      rw [w64 (by omega) (by omega), wrap_u64]
    have U1 := uint_ev ((X ++ Y ++ Z).length : Int) (by omega) (by rw [List.length_append, List.length_append]; omega)
    have U2 := uint_ev ((en - ahead) % 18446744073709551616) (by omega) (by omega)
    have l1 := (uv_len (u := ((X ++ Y ++ Z).length : Int)) (by rw [List.length_append, List.length_append]; omega)).2
    have l2 := (uv_len (u := (en - ahead) % 18446744073709551616) (by omega)).2
    obtain ⟨V1, hV1⟩ : ∃ V, uv ((X ++ Y ++ Z).length : Int) = V := ⟨_, rfl⟩
    obtain ⟨V2, hV2⟩ : ∃ V, uv ((en - ahead) % 18446744073709551616) = V := ⟨_, rfl⟩
    rw [hV1] at U1 l1 hk
    rw [hV2] at U2 l2 hk
    have hstep : Ev (fun k => ((P.lecternref03_Put.f k (docsOf ahead blk)).bind fun t244 => ((P.lecternref03_Put.f k (freqsOf blk)).bind fun t247 => ((P.lecternref03_Put.f k (placesOf blk)).bind fun t250 => ((P.lecternref02_Uint.f k (IntKind.u64.wrap (wrap64 ((wrap64 ((t244.length : Int) + (t247.length : Int))) + (t250.length : Int))))).bind fun t253 => ((P.lecternref02_Uint.f k (IntKind.u64.wrap (wrap64 (en - ahead)))).bind fun t256 => (if b.length + t253.length < 140737488355328 then ((some (b ++ t253 : List Int)).bind fun y259 => (if y259.length + t256.length < 140737488355328 then ((some (y259 ++ t256 : List Int)).bind fun y262 => (if y262.length + t244.length < 140737488355328 then ((some (y262 ++ t244 : List Int)).bind fun y265 => (if y265.length + t247.length < 140737488355328 then ((some (y265 ++ t247 : List Int)).bind fun y268 => (if y268.length + t250.length < 140737488355328 then (P.lecternref10_Build.l0 k l (y268 ++ t250) en (wrap64 (((8 * j : Nat) : Int) + 8))) else (none))) else (none))) else (none))) else (none))) else (none)))))))) r := by
      refine Ev.bind pX (Ev.bind pY (Ev.bind pZ ?_))
      rw [e1, e2]
      refine Ev.bind U1 (Ev.bind U2 ?_)
      have e3 : wrap64 (((8 * j : Nat) : Int) + 8) = ((8 * (j + 1) : Nat) : Int) := by rw [w64 (x := ((8 * j : Nat) : Int) + 8) (by omega) (by omega)]; omega
      refine Ev.congr (fun k => ?_) hk
      rw [if_pos (by omega), Option.bind_some, if_pos (by rw [List.length_append]; omega), Option.bind_some, if_pos (by rw [List.length_append, List.length_append]; omega), Option.bind_some, if_pos (by rw [List.length_append, List.length_append, List.length_append]; omega), Option.bind_some, if_pos (by rw [List.length_append, List.length_append, List.length_append, List.length_append]; omega), e3]
      congr 1
      simp only [List.append_assoc]
    refine ev1 (fun k => ?_) hstep
    rw [P.lecternref10_Build.l1, if_neg (by omega)]
  | d + 1, i, hi, hji => by
    have hlt : i < l.length := by omega
    have ih := build_l1 l hl j b ahead ok hb to_ hto hj r hk d (i + 1) (by omega) (by omega)
    have hcl : (chunkOf 8 (l.map to58) j).length = to_ - 8 * j := by
      unfold chunkOf
      rw [List.length_take, List.length_drop, List.length_map, Nat.mul_comm j]
      omega
    have hge : (chunkOf 8 (l.map to58) j)[i - 8 * j]'(by omega) = to58 l[i] := by
      unfold chunkOf
      rw [List.getElem_take, List.getElem_drop, List.getElem_map]
      congr 2
      omega
    have htk : (chunkOf 8 (l.map to58) j).take (i + 1 - 8 * j) = (chunkOf 8 (l.map to58) j).take (i - 8 * j) ++ [to58 l[i]] := by
      rw [show i + 1 - 8 * j = (i - 8 * j) + 1 from by omega, List.take_succ_eq_append_getElem (by omega), hge]
    have hmem : to58 l[i] ∈ chunkOf 8 (l.map to58) j := by rw [← hge]; exact List.getElem_mem _
    rw [htk] at ih
    obtain ⟨pre, hpre⟩ : ∃ pre, (chunkOf 8 (l.map to58) j).take (i - 8 * j) = pre := ⟨_, rfl⟩
    rw [hpre] at ih htk ⊢
    have hpl : pre.length ≤ 16384 := by rw [← hpre, List.length_take]; omega
    have hsum : (placesOf pre).length + l[i].f1.length ≤ 1048576 := by
      have h1 : (placesOf (pre ++ [to58 l[i]])).length ≤ 1048576 := by
        rw [P.places_len, ← htk, List.map_take]
        exact Nat.le_trans (P.sum_take_le _ _) ok.tot
      unfold placesOf at h1 ⊢
      rw [List.flatMap_append, List.length_append] at h1
      simp only [List.flatMap_cons, List.flatMap_nil, List.append_nil, diffs_length] at h1
      exact h1
    have hla := lastOf_range (pre.map fun p => p.f0) (-1) 16383 (fun y hy => by
      obtain ⟨q, hq, rfl⟩ := List.mem_map.1 hy
      have := ok.docs q (by rw [← hpre] at hq; exact List.mem_of_mem_take hq)
      omega) ahead ok.last0 (by have := ok.last1; omega)
    have hdoc := ok.docs _ hmem
    have hpos := ok.pos _ hmem
    have ed : docsOf ahead (pre ++ [to58 l[i]]) = docsOf ahead pre ++ [l[i].f0 - lastOf ahead (pre.map fun p => p.f0) - 1] := by
      unfold docsOf
      rw [List.map_append, List.map_cons, List.map_nil, gaps_snoc]
      rfl
    have ef : freqsOf (pre ++ [to58 l[i]]) = freqsOf pre ++ [(l[i].f1.length : Int) - 1] := by
      unfold freqsOf
      rw [List.map_append]
      rfl
    have ep : placesOf (pre ++ [to58 l[i]]) = placesOf pre ++ diffs 0 l[i].f1 := by
      unfold placesOf
      rw [List.flatMap_append]
      simp [to58]
    have el : lastOf ahead ((pre ++ [to58 l[i]]).map fun p => p.f0) = l[i].f0 := by
      rw [List.map_append, List.map_cons, List.map_nil, lastOf_snoc]
      rfl
    rw [ed, ef, ep, el] at ih
    have hdl : (docsOf ahead pre).length ≤ 16384 := by unfold docsOf; rw [gaps_length, List.length_map]; exact hpl
    have hfl : (freqsOf pre).length ≤ 16384 := by unfold freqsOf; rw [List.length_map]; exact hpl
    have hdoc2 : 0 ≤ l[i].f0 ∧ l[i].f0 < 16384 := hdoc
    have hpos2 : ∀ x ∈ l[i].f1, 0 ≤ x ∧ x ≤ 1048576 := hpos.2
    obtain ⟨p, hp⟩ : ∃ p, l[i] = p := ⟨_, rfl⟩
    have hge2 := map_getE l i hlt
    rw [hp] at ih hsum hdoc2 hpos2 hge2
    obtain ⟨la, hlae⟩ : ∃ la, lastOf ahead (pre.map fun p => p.f0) = la := ⟨_, rfl⟩
    rw [hlae] at ih hla ⊢
    have h2 := build_l2 l b p.f0 ((8 * j : Nat) : Int) to_ (docsOf ahead pre ++ [p.f0 - la - 1]) (freqsOf pre ++ [(p.f1.length : Int) - 1]) ahead i p.f1 hpos2 (by omega) r p.f1.length 0 (placesOf pre) (by omega) (by omega) (by
      rw [prevOf_zero, List.drop_zero, w64s i (by omega)]
      exact ih)
    refine ev1 (fun k => ?_) h2
    rw [P.lecternref10_Build.l1, if_pos (by omega), if_pos (by omega), if_pos (by omega), if_pos (by omega), if_pos (by omega), hge2, w64 (x := p.f0 - la) (by omega) (by omega), w64 (x := p.f0 - la - 1) (by omega) (by omega), w64 (x := (p.f1.length : Int) - 1) (by omega) (by omega)]
    rfl
open Go.RowKit
theorem sums_diffs : ∀ (l : List Int) (a : Int), sums a (diffs a l) = l
  | [], _ => rfl
  | x :: r, a => by
    rw [diffs, sums, show a + (x - a) = x from by omega, sums_diffs r]
theorem chk_diffs : ∀ (l : List Int) (prev : Int), chkP l prev = true → 0 ≤ prev → ∀ y ∈ diffs prev l, offB y = false
  | [], _, _, _, y, hy => by cases hy
  | x :: r, prev, h, h0, y, hy => by
    rw [chkP, Bool.and_eq_true, Bool.and_eq_true, Bool.and_eq_true] at h
    simp only [decide_eq_true_iff] at h
    obtain ⟨h1, h2, h3, h4⟩ := h
    rw [diffs] at hy
    rcases List.mem_cons.1 hy with rfl | hy
    · unfold offB
      exact decide_eq_false (by omega)
    · exact chk_diffs r x h4 h1 y hy
theorem postB_chk {last all : Int} {p : P.S58} (h : postB last all p = true) : chkP p.f1 0 = true ∧ last < p.f0 ∧ p.f0 < 16384 ∧ 1 ≤ p.f1.length ∧ all + p.f1.length ≤ 1048576 := by
  unfold postB at h
  simp only [Bool.and_eq_true, decide_eq_true_iff] at h
  obtain ⟨⟨⟨⟨⟨⟨h1, h2⟩, h3⟩, h4⟩, h5⟩, h6⟩, h7⟩ := h
  refine ⟨?_, h1, h2, h3, h4⟩
  rw [← sorted_iff p.f1 h3]
  simp only [Bool.and_eq_true, decide_eq_true_iff]
  exact ⟨⟨h5, h6⟩, h7⟩
theorem pGo_back : ∀ (blk rest : List P.S58) (la all : Int) (out : List P.S58), rightB la all (blk ++ rest) = true → -1 ≤ la → pGo (docsOf la blk) (freqsOf blk) (placesOf blk) la out = some (out ++ blk, lastOf la (blk.map fun p => p.f0))
  | [], rest, la, all, out, h, h0 => by
    show pGo [] [] [] la out = _
    rw [pGo, List.append_nil]
    rfl
  | p :: r, rest, la, all, out, h, h0 => by
    rw [List.cons_append, rightB, Bool.and_eq_true] at h
    obtain ⟨hc, h1, h2, h3, h4⟩ := postB_chk h.1
    have ih := pGo_back r rest p.f0 _ (out ++ [p]) h.2 (by omega)
    have ed : docsOf la (p :: r) = (p.f0 - la - 1) :: docsOf p.f0 r := rfl
    have ef : freqsOf (p :: r) = ((p.f1.length : Int) - 1) :: freqsOf r := rfl
    have ep : placesOf (p :: r) = diffs 0 p.f1 ++ placesOf r := by unfold placesOf; rw [List.flatMap_cons]
    rw [ed, ef, ep, pGo, List.headD_cons, List.tail_cons, show ((p.f1.length : Int) - 1 + 1).toNat = (diffs 0 p.f1).length from by rw [diffs_length]; omega, List.take_left, List.drop_left, if_neg (by omega), if_neg (by
      intro h
      obtain ⟨x, hx, hb⟩ := List.any_eq_true.1 h
      rw [chk_diffs p.f1 0 hc (by omega) x hx] at hb
      cases hb), sums_diffs, show la + 1 + (p.f0 - la - 1) = p.f0 from by omega]
    have e : (⟨p.f0, p.f1⟩ : P.S58) = p := rfl
    rw [e, ih, List.append_assoc]
    rfl
theorem allGo_back : ∀ (fs : List Int) (a : Int), (∀ f ∈ fs, 0 ≤ f) → a + sumF fs ≤ 1048576 → allGo a fs = some (a + sumF fs)
  | [], a, _, _ => by simp [allGo, sumF]
  | f :: r, a, h, hs => by
    have h0 := h f (List.mem_cons_self ..)
    have h1 : 0 ≤ sumF r := P.sumF_nonneg r fun g hg => h g (List.mem_cons_of_mem _ hg)
    have e : sumF (f :: r) = (f + 1) + sumF r := rfl
    rw [e] at hs ⊢
    rw [allGo, if_neg (by omega), allGo_back r (a + (f + 1)) (fun g hg => h g (List.mem_cons_of_mem _ hg)) (by omega)]
    congr 1
    omega
theorem sumF_freqs : ∀ (blk : List P.S58), sumF (freqsOf blk) = ((blk.map fun p => p.f1.length).sum : Nat)
  | [] => rfl
  | p :: r => by
    have e : sumF (freqsOf (p :: r)) = ((p.f1.length : Int) - 1 + 1) + sumF (freqsOf r) := rfl
    rw [e, sumF_freqs r, List.map_cons, List.sum_cons]
    omega
theorem block_ranges {blk : List P.S58} {ahead : Int} (ok : BlockOk blk ahead) : ((docsOf ahead blk).length ≤ 1048576 ∧ ∀ x ∈ docsOf ahead blk, -9223372036854775808 ≤ x ∧ x ≤ 9223372036854775807) ∧ ((freqsOf blk).length ≤ 1048576 ∧ ∀ x ∈ freqsOf blk, -9223372036854775808 ≤ x ∧ x ≤ 9223372036854775807) ∧ ((placesOf blk).length ≤ 1048576 ∧ ∀ x ∈ placesOf blk, -9223372036854775808 ≤ x ∧ x ≤ 9223372036854775807) := by
  have hn := ok.n
  refine ⟨⟨by unfold docsOf; rw [gaps_length, List.length_map]; omega, fun x hx => ?_⟩, ⟨by unfold freqsOf; rw [List.length_map]; omega, fun x hx => ?_⟩, ⟨by rw [P.places_len]; exact ok.tot, fun x hx => ?_⟩⟩
  · have := gaps_range (blk.map fun p => p.f0) (-1) 16383 (fun y hy => by obtain ⟨q, hq, rfl⟩ := List.mem_map.1 hy; have := ok.docs q hq; omega) ahead ok.last0 (by have := ok.last1; omega) x hx
    omega
  · unfold freqsOf at hx
    obtain ⟨q, hq, rfl⟩ := List.mem_map.1 hx
    have h1 := ok.tot
    have h2 : q.f1.length ≤ (blk.map fun p => p.f1.length).sum := P.sum_mem_le (List.mem_map.2 ⟨q, hq, rfl⟩)
    omega
  · unfold placesOf at hx
    obtain ⟨q, hq, hx⟩ := List.mem_flatMap.1 hx
    have := diffs_range q.f1 0 1048576 (fun y hy => (ok.pos q hq).2 y hy) 0 (by omega) (by omega) x hx
    omega
theorem postsF_back (blk rest : List P.S58) (ahead all last : Int) (ok : BlockOk blk ahead) (h : rightB ahead all (blk ++ rest) = true) : postsF (rowsOf ahead blk) ahead last blk.length = (blk, lastOf ahead (blk.map fun p => p.f0) == last) := by
  have hr := block_ranges ok
  have hdl : (docsOf ahead blk).length = blk.length := by unfold docsOf; rw [gaps_length, List.length_map]
  have hfl : (freqsOf blk).length = blk.length := by unfold freqsOf; rw [List.length_map]
  have hpl := P.places_len blk
  have e1 : rowsOf ahead blk = packPut (docsOf ahead blk) ++ (packPut (freqsOf blk) ++ packPut (placesOf blk)) := by unfold rowsOf; rw [List.append_assoc]
  have b1 := rowOf_back (docsOf ahead blk) (packPut (freqsOf blk) ++ packPut (placesOf blk)) hr.1.1 hr.1.2
  have b2 := rowOf_back (freqsOf blk) (packPut (placesOf blk)) hr.2.1.1 hr.2.1.2
  have b3 := rowOf_back (placesOf blk) [] hr.2.2.1 hr.2.2.2
  rw [List.append_nil] at b3
  rw [hdl, ← e1] at b1
  rw [hfl] at b2
  have hall : allGo 0 (freqsOf blk) = some (((placesOf blk).length : Nat) : Int) := by
    have h1 := sumF_freqs blk
    rw [allGo_back (freqsOf blk) 0 (fun f hf => by
      unfold freqsOf at hf
      obtain ⟨q, hq, rfl⟩ := List.mem_map.1 hf
      have := (ok.pos q hq).1
      omega) (by rw [h1]; have := ok.tot; omega), h1, hpl, Int.zero_add]
  unfold postsF
  rw [b1.1, b1.2, b2.1, b2.2, if_neg (by omega), hall]
  dsimp only
  rw [Int.toNat_natCast, b3.1, b3.2, if_neg (by simp), pGo_back blk rest ahead all [] h ok.last0, List.nil_append]
theorem blocks_succ (L : List P.S58) (j : Nat) : blocksOf L (List.range (j + 1)) = blockStep L (blocksOf L (List.range j)) j := by
  unfold blocksOf
  rw [List.range_succ, List.foldl_append]
  rfl
theorem blocks_bounds (L : List P.S58) (hR : rightB (-1) 0 L = true) : ∀ j, -1 ≤ (blocksOf L (List.range j)).1 ∧ (blocksOf L (List.range j)).1 ≤ 16383 ∧ (blocksOf L (List.range j)).2.length ≤ 1000 + 12700000 * j
  | 0 => by
    have h := rightB_len hR
    have h2 := (uv_len (u := (L.length : Int)) (by omega)).2
    refine ⟨Int.le_refl (-1), (by decide : (-1 : Int) ≤ 16383), ?_⟩
    show (uv (L.length : Int)).length ≤ _
    omega
  | j + 1 => by
    have ih := blocks_bounds L hR j
    rw [blocks_succ]
    have ok := blockOk_chunk hR j (blocksOf L (List.range j)).1 (by omega) (by omega)
    have h1 := P.lastOf_ok ok
    have h2 := P.rowsOf_len ok
    refine ⟨h1.1, h1.2, ?_⟩
    unfold blockStep
    dsimp only
    rw [List.length_append, List.length_append, List.length_append]
    have h3 := (uv_len (u := ((rowsOf (blocksOf L (List.range j)).1 (chunkOf 8 L j)).length : Int)) (by omega)).2
    have h4 := (uv_len (u := (lastOf (blocksOf L (List.range j)).1 ((chunkOf 8 L j).map fun p => p.f0) - (blocksOf L (List.range j)).1) % 18446744073709551616) (by omega)).2
    omega
theorem build_l0 (l : List P.S86) (hR : rightB (-1) 0 (l.map to58) = true) : ∀ (m j : Nat), j + m = (l.length + 7) / 8 → Ev (fun k => P.lecternref10_Build.l0 k l (blocksOf (l.map to58) (List.range j)).2 (blocksOf (l.map to58) (List.range j)).1 ((8 * j : Nat) : Int)) (formOf (l.map to58), 0)
  | 0, j, h => by
    have e : formOf (l.map to58) = (blocksOf (l.map to58) (List.range j)).2 := by unfold formOf; rw [List.length_map, show (l.length + 7) / 8 = j from by omega]
    rw [e]
    refine ev1 (f := fun _ => some _) (fun k => ?_) (Ev.now _)
    rw [P.lecternref10_Build.l0, if_neg (by omega)]
  | m + 1, j, h => by
    have ih := build_l0 l hR m (j + 1) (by omega)
    have hb := blocks_bounds (l.map to58) hR j
    have hlen := rightB_len hR
    rw [List.length_map] at hlen
    rw [blocks_succ] at ih
    obtain ⟨la, b, hst⟩ : ∃ la b, blocksOf (l.map to58) (List.range j) = (la, b) := ⟨_, _, rfl⟩
    rw [hst] at ih hb ⊢
    have ok := blockOk_chunk hR j la hb.1 (by have := hb.2.1; omega)
    unfold blockStep at ih
    dsimp only at ih hb ⊢
    have hlt : 8 * j < l.length := by omega
    obtain ⟨to_, hto⟩ : ∃ t, min (8 * j + 8) l.length = t := ⟨_, rfl⟩
    have h1 := build_l1 l hlen j b la ok (by omega) to_ hto.symm (by omega) _ ih (to_ - 8 * j) (8 * j) (by omega) (Nat.le_refl _)
    rw [Nat.sub_self, List.take_zero] at h1
    have e1 : wrap64 (((8 * j : Nat) : Int) + 8) = ((8 * j : Nat) : Int) + 8 := w64 (by omega) (by omega)
    refine ev1 (f := fun k => P.lecternref10_Build.j1 k l b la ((8 * j : Nat) : Int) to_) (fun k => ?_) (ev1 (fun k => ?_) h1)
    · rw [P.lecternref10_Build.l0, if_pos (by omega), e1]
      by_cases hg : ((8 * j : Nat) : Int) + 8 > l.length
      · rw [if_pos hg, show (l.length : Int) = (to_ : Int) from by omega]
      · rw [if_neg hg, show ((8 * j : Nat) : Int) + 8 = (to_ : Int) from by omega]
    · rw [P.lecternref10_Build.j1]
      rfl
def refOf (L : List P.S58) : List Int × Int := if rightB (-1) 0 L = true then (formOf L, 0) else ([], 1)
theorem build_ev (l : List P.S86) (hl : l.length ≤ 4611686018427387904) (hp : ∀ p ∈ l, p.f1.length ≤ 4611686018427387904) : Ev (fun k => P.lecternref10_Build.f k l) (refOf (l.map to58)) := by
  refine Ev.bind (right_ev l hl hp) ?_
  unfold refOf
  cases hR : rightB (-1) 0 (l.map to58) with
  | false =>
    refine Ev.congr (f := fun _ => some ([], 1)) (fun k => ?_) (Ev.now _)
    rw [if_neg (by decide)]
  | true =>
    rw [if_pos rfl]
    have hlen := rightB_len hR
    rw [List.length_map] at hlen
    have h0 := build_l0 l hR ((l.length + 7) / 8) 0 (by omega)
    have e : blocksOf (l.map to58) (List.range 0) = (-1, uv (l.length : Int)) := by
      show ((-1 : Int), uv (((l.map to58).length : Nat) : Int)) = _
      rw [List.length_map]
    rw [e] at h0
    have hu := uint_ev (l.length : Int) (by omega) (by omega)
    have e2 : IntKind.u64.wrap (l.length : Int) = (l.length : Int) := u64w (by omega) (by omega)
    refine Ev.congr (f := fun k => (P.lecternref02_Uint.f k (l.length : Int)).bind fun t223 => P.lecternref10_Build.l0 k l t223 (-1) 0) (fun k => ?_) (Ev.bind hu h0)
    rw [if_pos rfl, e2]
end Go.Proofs.Ytimlgpfcgklddaa
