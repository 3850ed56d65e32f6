/-
Texts of this seat, laid together: V1, V6.
-/
import Derived.ProofKit
import Derived.OpenShut
import Derived.ChangeOld
import Derived.SizedLaws
import Derived.ChangeSlices
import Derived.Deep.SlicePairs
import Derived.Test.YtimlgpfcgklddaaXB0
/-
An argument that is a slice of posts, opened.
-/
namespace Go.Proofs.Ytimlgpfcgklddaa
open Go.ChangeShapes Go.WideShapes Go.ChangeAt Go.RowKit Go.Proofs.YtimlgpfcgklddaaW.PrintWords
set_option linter.unusedVariables false
theorem weights_all {H : Type} {P : Program} {e : TypeId} : ∀ {l : List (DataW H)} {d : DataW H}, d ∈ l → ∀ n ∈ d.weights P e, n ∈ DataW.weightsAll P e l
  | x :: r, d, h, n, hn => by
    rw [DataW.weightsAll, List.mem_append]
    rcases List.mem_cons.1 h with rfl | h
    · exact .inl hn
    · exact .inr (weights_all h n hn)
theorem open_posts {H : Type} {enc : TypeId × Value → H} {W : World} {base : Nat} {spare : Nat → Bool} {held : Bool} {a : Option Addr} {len cap : Nat} {d : DataW H} {ps : List MemPlace}
    (h : DataW.Trod enc Try.prog W base spare held 22 (.slice a len cap) d ps) (hsz : ∀ n ∈ d.weights Try.prog 22, n ≤ reachBytes) :
    ∃ l : List P.S58, l.length = len ∧ len ≤ cap ∧ Kd.C P.k58 W a len l ∧ ∀ p ∈ l, p.f1.length * 8 ≤ 140737488351232 := by
  obtain ⟨fuel, hf⟩ := h
  rcases Go.Deep.open_slice_pairs Try.underlying22 Try.underlying58 (by kernel_rfl) rfl rfl (by kernel_rfl) (by kernel_rfl) hf with ⟨hcs, _⟩ | ⟨x, l, c, m, n, V0, V1, D0, D1, P0, P1, hcs, _, hl, hm, hmm, hx, hcell⟩
  · simp [Value.cells] at hcs
    obtain ⟨rfl, rfl, rfl⟩ := hcs
    exact ⟨[], rfl, Nat.le_refl _, Kd.C_nil _ _, fun p hp => by cases hp⟩
  · simp [Value.cells] at hcs
    obtain ⟨rfl, rfl, rfl⟩ := hcs
    have hlm : len ≤ m := by rw [hmm]; split <;> omega
    have each : ∀ i, i < len → ∃ q : P.S58, ∃ A1 c1, W.cell? (x.add (i * 2)) = some (.int .i64 q.f0) ∧ W.cell? (x.add (i * 2 + 1)) = some (.slice A1 q.f1.length c1) ∧ q.f1.length ≤ c1 ∧ (Kd.int .i64).C W A1 q.f1.length q.f1 ∧ q.f1.length * 8 ≤ 140737488351232 := by
      intro i hi
      obtain ⟨h0, h1, h2, h3⟩ := hcell i (by omega)
      obtain ⟨z0, hz0, _, _⟩ := DataW.trod_int Try.underlying3 h2
      simp at hz0
      rw [hz0] at h0
      have hmem : (DataW.agg [D0 i, D1 i] : DataW H) ∈ (List.range len).map fun i => (.agg [D0 i, D1 i] : DataW H) := List.mem_map.2 ⟨i, List.mem_range.2 hi, rfl⟩
      have hw1 : ∀ n ∈ (D1 i).weights Try.prog 52, n ≤ reachBytes := fun n hn => by
        refine hsz n ?_
        injection hx with hx1 _
        rw [hx1]
        simp only [DataW.weights, Try.underlying22]
        refine List.mem_cons_of_mem _ (List.mem_append.2 (.inl (weights_all hmem n ?_)))
        simp only [DataW.weights, Try.underlying58]
        simp only [DataW.weightsEach, List.map_cons, List.map_nil, List.mem_append]
        exact .inr (.inl hn)
      rcases open_ints Try.underlying52 Try.underlying3 (by kernel_rfl) h3 with ⟨hcs1, hd1⟩ | ⟨x1, l1, c1, zs, hcs1, _, hl1, hm1, hzl, hd1, hc1, _⟩
      · simp at hcs1
        rw [hcs1] at h1
        exact ⟨⟨z0, []⟩, none, 0, h0, h1, Nat.le_refl _, Kd.C_nil _ _, by simp⟩
      · simp at hcs1
        rw [hcs1] at h1
        have hl1z : l1 ≤ zs.length := by rw [hzl]; split <;> omega
        have htl : (zs.take l1).length = l1 := by rw [List.length_take]; omega
        refine ⟨⟨z0, zs.take l1⟩, some x1, c1, h0, by dsimp only; rw [htl]; exact h1, by dsimp only; rw [htl]; exact hl1, ?_, ?_⟩
        · dsimp only
          refine ⟨rfl, by rw [htl]; simp only [maxLen] at hm1; omega, fun _ => ⟨x1, rfl, fun j p hj => ⟨[.int .i64 p], rfl, rfl, fun i' u hu => ?_⟩⟩⟩
          cases i' with
          | succ i' => simp at hu
          | zero =>
            simp only [List.getElem?_cons_zero, Option.some.injEq] at hu
            subst hu
            have hjl := (List.getElem?_eq_some_iff.1 hj).1
            rw [List.length_take] at hjl
            have h5 := hc1 j (by omega)
            rw [List.getElem?_take, if_pos (by omega)] at hj
            rw [List.getD_eq_getElem?_getD, hj] at h5
            have e : (Kd.int .i64).sz = 1 := rfl
            rw [e, Nat.mul_one, Nat.add_zero]
            exact h5
        · dsimp only
          injection hd1 with hd1 _
          rw [htl]
          have := hw1 (((lits (H := H) .i64 (zs.take l1)).length + (lits (H := H) .i64 (zs.drop l1)).length) * Try.prog.bytesOf 3) (by rw [hd1]; simp only [DataW.weights, Try.underlying52]; exact List.mem_cons_self ..)
          rw [show Try.prog.bytesOf 3 = 8 from by kernel_rfl] at this
          simp only [lits, List.length_map, reachBytes, List.length_take, List.length_drop] at this
          omega
    have : ∃ f : Nat → P.S58, ∀ i, i < len → ∃ A1 c1, W.cell? (x.add (i * 2)) = some (.int .i64 (f i).f0) ∧ W.cell? (x.add (i * 2 + 1)) = some (.slice A1 (f i).f1.length c1) ∧ (f i).f1.length ≤ c1 ∧ (Kd.int .i64).C W A1 (f i).f1.length (f i).f1 ∧ (f i).f1.length * 8 ≤ 140737488351232 := by
      refine ⟨fun i => if hi : i < len then (each i hi).choose else P.z58, fun i hi => ?_⟩
      have e : (if hi : i < len then (each i hi).choose else P.z58) = (each i hi).choose := dif_pos hi
      dsimp only
      rw [e]
      exact (each i hi).choose_spec
    obtain ⟨f, hff⟩ := this
    refine ⟨(List.range len).map f, by simp, hl, ⟨by simp, by simp only [maxLen] at hm; omega, fun _ => ⟨x, rfl, fun j p hj => ?_⟩⟩, fun p hp => ?_⟩
    · have hjl := (List.getElem?_eq_some_iff.1 hj).1
      rw [List.length_map, List.length_range] at hjl
      have hpf : p = f j := by
        rw [List.getElem?_map, List.getElem?_range hjl] at hj
        simpa using hj.symm
      subst hpf
      obtain ⟨A1, c1, h0, h1, h2, h3, h4⟩ := hff j hjl
      refine ⟨[.int .i64 (f j).f0, .slice A1 (f j).f1.length c1], rfl, P.k58_mk W (f j) h2 h3, fun i u hu => ?_⟩
      match i with
      | 0 => simp only [List.getElem?_cons_zero, Option.some.injEq] at hu; subst hu; exact h0
      | 1 => simp only [List.getElem?_cons_succ, List.getElem?_cons_zero, Option.some.injEq] at hu; subst hu; exact h1
      | i + 2 => simp at hu
    · obtain ⟨j, hj, rfl⟩ := List.mem_map.1 hp
      obtain ⟨A1, c1, h0, h1, h2, h3, h4⟩ := hff j (List.mem_range.1 hj)
      exact h4
end Go.Proofs.Ytimlgpfcgklddaa
/-
An argument that is a slice of moves, opened.
-/
namespace Go.Proofs.Ytimlgpfcgklddaa
open Go.ChangeShapes Go.WideShapes Go.ChangeAt Go.RowKit Go.Proofs.YtimlgpfcgklddaaW.PrintWords
set_option linter.unusedVariables false
/-- A row of moves can be read: three numbers each. -/
structure Mvs (w : World) (A : Option Addr) (n : Nat) (D : Nat → Int × Int × Int) : Prop where
  len : n ≤ 9223372036854775807
  at_ : 0 < n → ∃ x, A = some x ∧ ∀ i, i < n → w.cell? (x.add (i * 3)) = some (.int .i64 (D i).1) ∧ w.cell? (x.add (i * 3 + 1)) = some (.int .i64 (D i).2.1) ∧ w.cell? (x.add (i * 3 + 2)) = some (.int .i64 (D i).2.2)
theorem Mvs.below {w w' : World} {A : Option Addr} {n : Nat} {D : Nat → Int × Int × Int} (h : Mvs w A n D) (hb : Below w.heap.size w w') : Mvs w' A n D :=
  ⟨h.len, fun hn => by
    obtain ⟨x, e, hx⟩ := h.at_ hn
    exact ⟨x, e, fun i hi => ⟨pw_cell_below hb (hx i hi).1, pw_cell_below hb (hx i hi).2.1, pw_cell_below hb (hx i hi).2.2⟩⟩⟩
set_option maxRecDepth 100000 in
theorem open_moves {H : Type} {enc : TypeId × Value → H} {W : World} {base : Nat} {spare : Nat → Bool} {held : Bool} {a : Option Addr} {len cap : Nat} {d : DataW H} {ps : List MemPlace}
    (h : DataW.Trod enc Try.prog W base spare held 38 (.slice a len cap) d ps) : len ≤ cap ∧ ∃ D, Mvs W a len D := by
  obtain ⟨fuel, hf⟩ := h
  rcases Go.Deep.open_slice Try.underlying38 hf with ⟨hcs, _⟩ | ⟨x, l, c, m, n, D, Pl, hcs, hb, hl, hm, hmm, _, hx⟩
  · simp [Value.cells] at hcs
    obtain ⟨rfl, rfl, rfl⟩ := hcs
    exact ⟨Nat.le_refl _, fun _ => (0, 0, 0), by omega, fun h => by omega⟩
  · simp [Value.cells] at hcs
    obtain ⟨rfl, rfl, rfl⟩ := hcs
    have hlm : len ≤ m := by rw [hmm]; split <;> omega
    have each : ∀ i, i < len → ∃ q : Int × Int × Int, W.cell? (x.add (i * 3)) = some (.int .i64 q.1) ∧ W.cell? (x.add (i * 3 + 1)) = some (.int .i64 q.2.1) ∧ W.cell? (x.add (i * 3 + 2)) = some (.int .i64 q.2.2) := by
      intro i hi
      obtain ⟨cs', h1, h2⟩ := hx i (by omega)
      rw [show Try.prog.cellsOf 50 = 3 from by kernel_rfl] at h1
      obtain ⟨_, hlen, hcell⟩ := World.cells?_some h1
      obtain ⟨xs, k, hk, hxy, _, hxl, hf⟩ := DataW.trod_struct Try.underlying50 h2
      match xs, hxl, cs', hlen with
      | [y0, y1, y2], _, [v0, v1, v2], _ =>
        have g0 : DataW.trod enc Try.prog W base spare held k 3 (List.take (Try.prog.cellsOf 3) (List.drop 0 [v0, v1, v2])) = some y0 := hf 0 _ rfl
        have g1 : DataW.trod enc Try.prog W base spare held k 3 (List.take (Try.prog.cellsOf 3) (List.drop 1 [v0, v1, v2])) = some y1 := hf 1 _ rfl
        have g2 : DataW.trod enc Try.prog W base spare held k 3 (List.take (Try.prog.cellsOf 3) (List.drop 2 [v0, v1, v2])) = some y2 := hf 2 _ rfl
        have e0 := hcell 0 (by omega)
        have e1 := hcell 1 (by omega)
        have e2 := hcell 2 (by omega)
        rw [show Try.prog.cellsOf 3 = 1 from by kernel_rfl] at g0 g1 g2
        simp only [List.drop_zero, List.drop_succ_cons, List.take_succ_cons, List.take_zero] at g0 g1 g2
        obtain ⟨z0, hz0, _⟩ := DataW.trod_int Try.underlying3 g0
        obtain ⟨z1, hz1, _⟩ := DataW.trod_int Try.underlying3 g1
        obtain ⟨z2, hz2, _⟩ := DataW.trod_int Try.underlying3 g2
        simp at hz0 hz1 hz2
        subst hz0; subst hz1; subst hz2
        rw [Go.Deep.add_add] at e0 e1 e2
        exact ⟨(z0, z1, z2), by simpa using e0, by simpa using e1, by simpa using e2⟩
    have : ∃ f : Nat → Int × Int × Int, ∀ i, i < len → W.cell? (x.add (i * 3)) = some (.int .i64 (f i).1) ∧ W.cell? (x.add (i * 3 + 1)) = some (.int .i64 (f i).2.1) ∧ W.cell? (x.add (i * 3 + 2)) = some (.int .i64 (f i).2.2) := by
      refine ⟨fun i => if hi : i < len then (each i hi).choose else (0, 0, 0), fun i hi => ?_⟩
      have e : (if hi : i < len then (each i hi).choose else (0, 0, 0)) = (each i hi).choose := dif_pos hi
      dsimp only
      rw [e]
      exact (each i hi).choose_spec
    obtain ⟨f, hff⟩ := this
    exact ⟨hl, f, by simp only [maxLen] at hm; omega, fun _ => ⟨x, rfl, hff⟩⟩
end Go.Proofs.Ytimlgpfcgklddaa
