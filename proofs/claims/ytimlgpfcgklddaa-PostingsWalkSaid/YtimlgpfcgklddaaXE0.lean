/-
Texts of this seat, laid together: E0.
-/
import Derived.Test.YtimlgpfcgklddaaXF12
import Derived.Test.YtimlgpfcgklddaaXD8
/-
The chapter's walk: what is reckoned.
-/
namespace Go.Proofs.Ytimlgpfcgklddaa
open Go.RowKit
def givenL : List P.S58 := [⟨2, [0, 5]⟩, ⟨4, [1]⟩]
def formL : List Int := [2, 10, 5, 2, 1, 1, 0, 1, 1, 0, 3, 104, 0]
theorem given_form : formOf givenL = formL := by kernel_rfl
theorem given_right : rightB (-1) 0 givenL = true := by kernel_rfl
def blL : List Blk := [⟨[2, 1, 1, 0, 1, 1, 0, 3, 104, 0], -1, 4, 2⟩]
theorem form_open : openF formL = some (blL, 2) := by kernel_rfl
theorem bl_ok : ∀ p ∈ blL, BlkOk p := by
  intro p hp
  rw [blL, List.mem_singleton] at hp
  subst hp
  exact ⟨by decide, by decide, by decide, by decide, by decide, by kernel_rfl⟩
def st0 : ISt := ⟨[], -1, 0⟩
def st1 : ISt := ⟨givenL, 0, 1⟩
def st2 : ISt := ⟨givenL, 1, 1⟩
def st3 : ISt := ⟨[], 0, 1073741824⟩
theorem go1 : nextF blL st0 = (true, st1) := by kernel_rfl
theorem go2 : advF blL st1 3 = (true, st2) := by kernel_rfl
theorem go3 : advF blL st2 4 = (true, st2) := by kernel_rfl
theorem go4 : nextF blL st2 = (false, st3) := by kernel_rfl
theorem doc1 : docF st1 = 2 := by kernel_rfl
theorem freq1 : freqF st1 = 2 := by kernel_rfl
theorem doc2 : docF st2 = 4 := by kernel_rfl
theorem doc3 : docF st3 = 16384 := by kernel_rfl
end Go.Proofs.Ytimlgpfcgklddaa
