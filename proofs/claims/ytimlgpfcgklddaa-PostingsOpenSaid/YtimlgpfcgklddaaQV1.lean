/-
Texts of this seat, laid together: V1, V8.
-/
import Derived.ProofKit
import Derived.OpenShut
import Derived.ChangeOld
import Derived.SizedLaws
import Derived.ChangeSlices
import Derived.Deep.SlicePairs
import Derived.Test.YtimlgpfcgklddaaQB0
namespace Go.Proofs.Ytimlgpfcgklddaa
open Go.ChangeShapes Go.WideShapes Go.ChangeAt Go.RowKit Go.Proofs.YtimlgpfcgklddaaW.PrintWords
set_option linter.unusedVariables false
theorem lit_u8 {n : Int} (h : (Lit.int .u8 n).wf = true) : 0 ≤ n ∧ n < 256 := by
  have e1 : IntKind.u8.min = 0 := rfl
  have e2 : IntKind.u8.max = 255 := rfl
  simp only [Lit.wf, Bool.and_eq_true, decide_eq_true_iff, e1, e2] at h
  omega
set_option maxRecDepth 100000 in
theorem open_byte25 {H : Type} {enc : TypeId × Value → H} {W : World} {base : Nat} {spare : Nat → Bool} {held : Bool} {a : Option Addr} {len cap : Nat} {d : DataW H} {ps : List MemPlace}
    (h : DataW.Trod enc Try.prog W base spare held 25 (.slice a len cap) d ps) (hsz : ∀ n ∈ d.weights Try.prog 25, n ≤ reachBytes) :
    ∃ D : List Int, D.length = len ∧ len ≤ cap ∧ (Kd.int .u8).C W a len D ∧ D.length ≤ 140737488351232 ∧ ∀ x ∈ D, 0 ≤ x ∧ x < 256 := by
  obtain ⟨fuel, h3⟩ := h
  rcases open_ints Try.underlying25 Try.underlying5 (by kernel_rfl) h3 with ⟨hcs1, hd1⟩ | ⟨x1, l1, c1, zs, hcs1, _, hl1, hm1, hzl, hd1, hc1, hwf⟩
  · simp [Value.cells] at hcs1
    obtain ⟨rfl, rfl, rfl⟩ := hcs1
    exact ⟨[], rfl, Nat.le_refl _, Kd.C_nil _ _, by simp, fun x hx => by cases hx⟩
  · simp [Value.cells] at hcs1
    obtain ⟨rfl, rfl, rfl⟩ := hcs1
    have hl1z : len ≤ zs.length := by rw [hzl]; split <;> omega
    have htl : (zs.take len).length = len := by rw [List.length_take]; omega
    refine ⟨zs.take len, htl, hl1, ⟨htl, by simp only [maxLen] at hm1; omega, fun _ => ⟨x1, rfl, fun j p hj => ⟨[.int .u8 p], rfl, rfl, fun i' u hu => ?_⟩⟩⟩, ?_⟩
    · cases i' with
      | succ i' => simp at hu
      | zero =>
        simp only [List.getElem?_cons_zero, Option.some.injEq] at hu
        subst hu
        have hjl := (List.getElem?_eq_some_iff.1 hj).1
        rw [List.length_take] at hjl
        have h5 := hc1 j (by omega)
        rw [List.getElem?_take, if_pos (by omega)] at hj
        rw [List.getD_eq_getElem?_getD, hj] at h5
        have e : (Kd.int .u8).sz = 1 := rfl
        rw [e, Nat.mul_one, Nat.add_zero]
        exact h5
    · refine ⟨?_, fun x hx => ?_⟩
      · injection hd1 with hd1 _
        rw [htl]
        have := hsz (((lits (H := H) .u8 (zs.take len)).length + (lits (H := H) .u8 (zs.drop len)).length) * Try.prog.bytesOf 5) (by rw [hd1]; simp only [DataW.weights, Try.underlying25]; exact List.mem_cons_self ..)
        rw [show Try.prog.bytesOf 5 = 1 from by kernel_rfl] at this
        simp only [lits, List.length_map, reachBytes, List.length_take, List.length_drop] at this
        omega
      · have h1 := hwf x (List.mem_of_mem_take hx)
        exact lit_u8 h1
end Go.Proofs.Ytimlgpfcgklddaa
