/-
Texts of this seat, laid together: V1, V3, V4.
-/
import Derived.ProofKit
import Derived.OpenShut
import Derived.ChangeOld
import Derived.SizedLaws
import Derived.ChangeSlices
import Derived.Deep.SlicePairs
import Derived.Test.YtimlgpfcgklddaaYB0
/-
An argument that is a slice of posts, opened.
-/
namespace Go.Proofs.Ytimlgpfcgklddaa
open Go.ChangeShapes Go.WideShapes Go.ChangeAt Go.RowKit Go.Proofs.YtimlgpfcgklddaaW.PrintWords
set_option linter.unusedVariables false
theorem weights_all {H : Type} {P : Program} {e : TypeId} : ∀ {l : List (DataW H)} {d : DataW H}, d ∈ l → ∀ n ∈ d.weights P e, n ∈ DataW.weightsAll P e l
  | x :: r, d, h, n, hn => by
    rw [DataW.weightsAll, List.mem_append]
    rcases List.mem_cons.1 h with rfl | h
    · exact .inl hn
    · exact .inr (weights_all h n hn)
theorem open_posts {H : Type} {enc : TypeId × Value → H} {W : World} {base : Nat} {spare : Nat → Bool} {held : Bool} {a : Option Addr} {len cap : Nat} {d : DataW H} {ps : List MemPlace}
    (h : DataW.Trod enc Try.prog W base spare held 22 (.slice a len cap) d ps) (hsz : ∀ n ∈ d.weights Try.prog 22, n ≤ reachBytes) :
    ∃ l : List P.S58, l.length = len ∧ len ≤ cap ∧ Kd.C P.k58 W a len l ∧ ∀ p ∈ l, p.f1.length * 8 ≤ 140737488351232 := by
  obtain ⟨fuel, hf⟩ := h
  rcases Go.Deep.open_slice_pairs Try.underlying22 Try.underlying58 (by kernel_rfl) rfl rfl (by kernel_rfl) (by kernel_rfl) hf with ⟨hcs, _⟩ | ⟨x, l, c, m, n, V0, V1, D0, D1, P0, P1, hcs, _, hl, hm, hmm, hx, hcell⟩
  · simp [Value.cells] at hcs
    obtain ⟨rfl, rfl, rfl⟩ := hcs
    exact ⟨[], rfl, Nat.le_refl _, Kd.C_nil _ _, fun p hp => by cases hp⟩
  · simp [Value.cells] at hcs
    obtain ⟨rfl, rfl, rfl⟩ := hcs
    have hlm : len ≤ m := by rw [hmm]; split <;> omega
    have each : ∀ i, i < len → ∃ q : P.S58, ∃ A1 c1, W.cell? (x.add (i * 2)) = some (.int .i64 q.f0) ∧ W.cell? (x.add (i * 2 + 1)) = some (.slice A1 q.f1.length c1) ∧ q.f1.length ≤ c1 ∧ (Kd.int .i64).C W A1 q.f1.length q.f1 ∧ q.f1.length * 8 ≤ 140737488351232 := by
      intro i hi
      obtain ⟨h0, h1, h2, h3⟩ := hcell i (by omega)
      obtain ⟨z0, hz0, _, _⟩ := DataW.trod_int Try.underlying3 h2
      simp at hz0
      rw [hz0] at h0
      have hmem : (DataW.agg [D0 i, D1 i] : DataW H) ∈ (List.range len).map fun i => (.agg [D0 i, D1 i] : DataW H) := List.mem_map.2 ⟨i, List.mem_range.2 hi, rfl⟩
      have hw1 : ∀ n ∈ (D1 i).weights Try.prog 52, n ≤ reachBytes := fun n hn => by
        refine hsz n ?_
        injection hx with hx1 _
        rw [hx1]
        simp only [DataW.weights, Try.underlying22]
        refine List.mem_cons_of_mem _ (List.mem_append.2 (.inl (weights_all hmem n ?_)))
        simp only [DataW.weights, Try.underlying58]
        simp only [DataW.weightsEach, List.map_cons, List.map_nil, List.mem_append]
        exact .inr (.inl hn)
      rcases open_ints Try.underlying52 Try.underlying3 (by kernel_rfl) h3 with ⟨hcs1, hd1⟩ | ⟨x1, l1, c1, zs, hcs1, _, hl1, hm1, hzl, hd1, hc1, _⟩
      · simp at hcs1
        rw [hcs1] at h1
        exact ⟨⟨z0, []⟩, none, 0, h0, h1, Nat.le_refl _, Kd.C_nil _ _, by simp⟩
      · simp at hcs1
        rw [hcs1] at h1
        have hl1z : l1 ≤ zs.length := by rw [hzl]; split <;> omega
        have htl : (zs.take l1).length = l1 := by rw [List.length_take]; omega
        refine ⟨⟨z0, zs.take l1⟩, some x1, c1, h0, by dsimp only; rw [htl]; exact h1, by dsimp only; rw [htl]; exact hl1, ?_, ?_⟩
        · dsimp only
          refine ⟨rfl, by rw [htl]; simp only [maxLen] at hm1; omega, fun _ => ⟨x1, rfl, fun j p hj => ⟨[.int .i64 p], rfl, rfl, fun i' u hu => ?_⟩⟩⟩
          cases i' with
          | succ i' => simp at hu
          | zero =>
            simp only [List.getElem?_cons_zero, Option.some.injEq] at hu
            subst hu
            have hjl := (List.getElem?_eq_some_iff.1 hj).1
            rw [List.length_take] at hjl
            have h5 := hc1 j (by omega)
            rw [List.getElem?_take, if_pos (by omega)] at hj
            rw [List.getD_eq_getElem?_getD, hj] at h5
            have e : (Kd.int .i64).sz = 1 := rfl
            rw [e, Nat.mul_one, Nat.add_zero]
            exact h5
        · dsimp only
          injection hd1 with hd1 _
          rw [htl]
          have := hw1 (((lits (H := H) .i64 (zs.take l1)).length + (lits (H := H) .i64 (zs.drop l1)).length) * Try.prog.bytesOf 3) (by rw [hd1]; simp only [DataW.weights, Try.underlying52]; exact List.mem_cons_self ..)
          rw [show Try.prog.bytesOf 3 = 8 from by kernel_rfl] at this
          simp only [lits, List.length_map, reachBytes, List.length_take, List.length_drop] at this
          omega
    have : ∃ f : Nat → P.S58, ∀ i, i < len → ∃ A1 c1, W.cell? (x.add (i * 2)) = some (.int .i64 (f i).f0) ∧ W.cell? (x.add (i * 2 + 1)) = some (.slice A1 (f i).f1.length c1) ∧ (f i).f1.length ≤ c1 ∧ (Kd.int .i64).C W A1 (f i).f1.length (f i).f1 ∧ (f i).f1.length * 8 ≤ 140737488351232 := by
      refine ⟨fun i => if hi : i < len then (each i hi).choose else P.z58, fun i hi => ?_⟩
      have e : (if hi : i < len then (each i hi).choose else P.z58) = (each i hi).choose := dif_pos hi
      dsimp only
      rw [e]
      exact (each i hi).choose_spec
    obtain ⟨f, hff⟩ := this
    refine ⟨(List.range len).map f, by simp, hl, ⟨by simp, by simp only [maxLen] at hm; omega, fun _ => ⟨x, rfl, fun j p hj => ?_⟩⟩, fun p hp => ?_⟩
    · have hjl := (List.getElem?_eq_some_iff.1 hj).1
      rw [List.length_map, List.length_range] at hjl
      have hpf : p = f j := by
        rw [List.getElem?_map, List.getElem?_range hjl] at hj
        simpa using hj.symm
      subst hpf
      obtain ⟨A1, c1, h0, h1, h2, h3, h4⟩ := hff j hjl
      refine ⟨[.int .i64 (f j).f0, .slice A1 (f j).f1.length c1], rfl, P.k58_mk W (f j) h2 h3, fun i u hu => ?_⟩
      match i with
      | 0 => simp only [List.getElem?_cons_zero, Option.some.injEq] at hu; subst hu; exact h0
      | 1 => simp only [List.getElem?_cons_succ, List.getElem?_cons_zero, Option.some.injEq] at hu; subst hu; exact h1
      | i + 2 => simp at hu
    · obtain ⟨j, hj, rfl⟩ := List.mem_map.1 hp
      obtain ⟨A1, c1, h0, h1, h2, h3, h4⟩ := hff j (List.mem_range.1 hj)
      exact h4
end Go.Proofs.Ytimlgpfcgklddaa
/-
An argument that is a slice of posts: how long it may be.
-/
namespace Go.Proofs.Ytimlgpfcgklddaa
open Go.ChangeShapes Go.WideShapes Go.ChangeAt Go.RowKit Go.Proofs.YtimlgpfcgklddaaW.PrintWords
set_option linter.unusedVariables false
theorem posts_len {H : Type} {enc : TypeId × Value → H} {W : World} {base : Nat} {spare : Nat → Bool} {held : Bool} {a : Option Addr} {len cap : Nat} {d : DataW H} {ps : List MemPlace}
    (h : DataW.Trod enc Try.prog W base spare held 22 (.slice a len cap) d ps) (hsz : ∀ n ∈ d.weights Try.prog 22, n ≤ reachBytes) : len ≤ 140737488355328 := by
  obtain ⟨fuel, hf⟩ := h
  rcases Go.Deep.open_slice_pairs Try.underlying22 Try.underlying58 (by kernel_rfl) rfl rfl (by kernel_rfl) (by kernel_rfl) hf with ⟨hcs, _⟩ | ⟨x, l, c, m, n, V0, V1, D0, D1, P0, P1, hcs, _, hl, hm, hmm, hx, hcell⟩
  · simp [Value.cells] at hcs
    obtain ⟨rfl, rfl, rfl⟩ := hcs
    exact Nat.zero_le _
  · simp [Value.cells] at hcs
    obtain ⟨rfl, rfl, rfl⟩ := hcs
    injection hx with hx1 _
    have := hsz _ (by rw [hx1]; simp only [DataW.weights, Try.underlying22]; exact List.mem_cons_self ..)
    rw [show Try.prog.bytesOf 58 = 32 from by kernel_rfl] at this
    simp only [List.length_map, List.length_range, reachBytes] at this
    omega
end Go.Proofs.Ytimlgpfcgklddaa
/-
An argument that is a slice of int, opened.
-/
namespace Go.Proofs.Ytimlgpfcgklddaa
open Go.ChangeShapes Go.WideShapes Go.ChangeAt Go.RowKit Go.Proofs.YtimlgpfcgklddaaW.PrintWords
set_option linter.unusedVariables false
theorem open_int52 {H : Type} {enc : TypeId × Value → H} {W : World} {base : Nat} {spare : Nat → Bool} {held : Bool} {a : Option Addr} {len cap : Nat} {d : DataW H} {ps : List MemPlace}
    (h : DataW.Trod enc Try.prog W base spare held 52 (.slice a len cap) d ps) (hsz : ∀ n ∈ d.weights Try.prog 52, n ≤ reachBytes) :
    ∃ D : List Int, D.length = len ∧ len ≤ cap ∧ (Kd.int .i64).C W a len D ∧ D.length * 8 ≤ 140737488351232 := by
  obtain ⟨fuel, h3⟩ := h
  rcases open_ints Try.underlying52 Try.underlying3 (by kernel_rfl) h3 with ⟨hcs1, hd1⟩ | ⟨x1, l1, c1, zs, hcs1, _, hl1, hm1, hzl, hd1, hc1, _⟩
  · simp [Value.cells] at hcs1
    obtain ⟨rfl, rfl, rfl⟩ := hcs1
    exact ⟨[], rfl, Nat.le_refl _, Kd.C_nil _ _, by simp⟩
  · simp [Value.cells] at hcs1
    obtain ⟨rfl, rfl, rfl⟩ := hcs1
    have hl1z : len ≤ zs.length := by rw [hzl]; split <;> omega
    have htl : (zs.take len).length = len := by rw [List.length_take]; omega
    refine ⟨zs.take len, htl, hl1, ⟨htl, by simp only [maxLen] at hm1; omega, fun _ => ⟨x1, rfl, fun j p hj => ⟨[.int .i64 p], rfl, rfl, fun i' u hu => ?_⟩⟩⟩, ?_⟩
    · cases i' with
      | succ i' => simp at hu
      | zero =>
        simp only [List.getElem?_cons_zero, Option.some.injEq] at hu
        subst hu
        have hjl := (List.getElem?_eq_some_iff.1 hj).1
        rw [List.length_take] at hjl
        have h5 := hc1 j (by omega)
        rw [List.getElem?_take, if_pos (by omega)] at hj
        rw [List.getD_eq_getElem?_getD, hj] at h5
        have e : (Kd.int .i64).sz = 1 := rfl
        rw [e, Nat.mul_one, Nat.add_zero]
        exact h5
    · injection hd1 with hd1 _
      rw [htl]
      have := hsz (((lits (H := H) .i64 (zs.take len)).length + (lits (H := H) .i64 (zs.drop len)).length) * Try.prog.bytesOf 3) (by rw [hd1]; simp only [DataW.weights, Try.underlying52]; exact List.mem_cons_self ..)
      rw [show Try.prog.bytesOf 3 = 8 from by kernel_rfl] at this
      simp only [lits, List.length_map, reachBytes, List.length_take, List.length_drop] at this
      omega
end Go.Proofs.Ytimlgpfcgklddaa
