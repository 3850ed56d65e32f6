/-
Texts of this seat, laid together: R7.
-/
import Derived.Test.YtimlgpfcgklddaaXF12
import Derived.Test.YtimlgpfcgklddaaXR6
/-
The document's Build, by contract.
-/
namespace Go.Proofs.Ytimlgpfcgklddaa
open Go.RowKit Go.Proofs.YtimlgpfcgklddaaW.PrintWords Go.Proofs.YtimlgpfcgklddaaW.PrintLast
set_option linter.unusedVariables false
theorem blocks_succ (L : List P.S58) (j : Nat) : blocksOf L (List.range (j + 1)) = blockStep L (blocksOf L (List.range j)) j := by
  unfold blocksOf
  rw [List.range_succ, List.foldl_append]
  rfl
theorem blocks_bounds (L : List P.S58) (hR : rightB (-1) 0 L = true) : ∀ j, -1 ≤ (blocksOf L (List.range j)).1 ∧ (blocksOf L (List.range j)).1 ≤ 16383 ∧ (blocksOf L (List.range j)).2.length ≤ 1000 + 12700000 * j
  | 0 => by
    have h := rightB_len hR
    have h2 := (uv_len (u := (L.length : Int)) (by omega)).2
    refine ⟨Int.le_refl (-1), (by decide : (-1 : Int) ≤ 16383), ?_⟩
    show (uv (L.length : Int)).length ≤ _
    omega
  | j + 1 => by
    have ih := blocks_bounds L hR j
    rw [blocks_succ]
    have ok := blockOk_chunk hR j (blocksOf L (List.range j)).1 (by omega) (by omega)
    have h1 := P.lastOf_ok ok
    have h2 := P.rowsOf_len ok
    refine ⟨h1.1, h1.2, ?_⟩
    unfold blockStep
    dsimp only
    rw [List.length_append, List.length_append, List.length_append]
    have h3 := (uv_len (u := ((rowsOf (blocksOf L (List.range j)).1 (chunkOf 8 L j)).length : Int)) (by omega)).2
    have h4 := (uv_len (u := (lastOf (blocksOf L (List.range j)).1 ((chunkOf 8 L j).map fun p => p.f0) - (blocksOf L (List.range j)).1) % 18446744073709551616) (by omega)).2
    omega
theorem build_l0 (l : List P.S86) (hR : rightB (-1) 0 (l.map to58) = true) : ∀ (m j : Nat), j + m = (l.length + 7) / 8 → Ev (fun k => P.lecternref10_Build.l0 k l (blocksOf (l.map to58) (List.range j)).2 (blocksOf (l.map to58) (List.range j)).1 ((8 * j : Nat) : Int)) (formOf (l.map to58), 0)
  | 0, j, h => by
    have e : formOf (l.map to58) = (blocksOf (l.map to58) (List.range j)).2 := by unfold formOf; rw [List.length_map, show (l.length + 7) / 8 = j from by omega]
    rw [e]
    refine ev1 (f := fun _ => some _) (fun k => ?_) (Ev.now _)
    rw [P.lecternref10_Build.l0, if_neg (by omega)]
  | m + 1, j, h => by
    have ih := build_l0 l hR m (j + 1) (by omega)
    have hb := blocks_bounds (l.map to58) hR j
    have hlen := rightB_len hR
    rw [List.length_map] at hlen
    rw [blocks_succ] at ih
    obtain ⟨la, b, hst⟩ : ∃ la b, blocksOf (l.map to58) (List.range j) = (la, b) := ⟨_, _, rfl⟩
    rw [hst] at ih hb ⊢
    have ok := blockOk_chunk hR j la hb.1 (by have := hb.2.1; omega)
    unfold blockStep at ih
    dsimp only at ih hb ⊢
    have hlt : 8 * j < l.length := by omega
    obtain ⟨to_, hto⟩ : ∃ t, min (8 * j + 8) l.length = t := ⟨_, rfl⟩
    have h1 := build_l1 l hlen j b la ok (by omega) to_ hto.symm (by omega) _ ih (to_ - 8 * j) (8 * j) (by omega) (Nat.le_refl _)
    rw [Nat.sub_self, List.take_zero] at h1
    have e1 : wrap64 (((8 * j : Nat) : Int) + 8) = ((8 * j : Nat) : Int) + 8 := w64 (by omega) (by omega)
    refine ev1 (f := fun k => P.lecternref10_Build.j1 k l b la ((8 * j : Nat) : Int) to_) (fun k => ?_) (ev1 (fun k => ?_) h1)
    · rw [P.lecternref10_Build.l0, if_pos (by omega), e1]
      by_cases hg : ((8 * j : Nat) : Int) + 8 > l.length
      · rw [if_pos hg, show (l.length : Int) = (to_ : Int) from by omega]
      · rw [if_neg hg, show ((8 * j : Nat) : Int) + 8 = (to_ : Int) from by omega]
    · rw [P.lecternref10_Build.j1]
      rfl
def refOf (L : List P.S58) : List Int × Int := if rightB (-1) 0 L = true then (formOf L, 0) else ([], 1)
theorem build_ev (l : List P.S86) (hl : l.length ≤ 4611686018427387904) (hp : ∀ p ∈ l, p.f1.length ≤ 4611686018427387904) : Ev (fun k => P.lecternref10_Build.f k l) (refOf (l.map to58)) := by
  refine Ev.bind (right_ev l hl hp) ?_
  unfold refOf
  cases hR : rightB (-1) 0 (l.map to58) with
  | false =>
    refine Ev.congr (f := fun _ => some ([], 1)) (fun k => ?_) (Ev.now _)
    rw [if_neg (by decide)]
  | true =>
    rw [if_pos rfl]
    have hlen := rightB_len hR
    rw [List.length_map] at hlen
    have h0 := build_l0 l hR ((l.length + 7) / 8) 0 (by omega)
    have e : blocksOf (l.map to58) (List.range 0) = (-1, uv (l.length : Int)) := by
      show ((-1 : Int), uv (((l.map to58).length : Nat) : Int)) = _
      rw [List.length_map]
    rw [e] at h0
    have hu := uint_ev (l.length : Int) (by omega) (by omega)
    have e2 : IntKind.u64.wrap (l.length : Int) = (l.length : Int) := u64w (by omega) (by omega)
    refine Ev.congr (f := fun k => (P.lecternref02_Uint.f k (l.length : Int)).bind fun t223 => P.lecternref10_Build.l0 k l t223 (-1) 0) (fun k => ?_) (Ev.bind hu h0)
    rw [if_pos rfl, e2]
end Go.Proofs.Ytimlgpfcgklddaa
