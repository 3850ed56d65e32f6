/-
Texts of this seat, laid together: H2.
-/
import Derived.Test.YtimlgpfcgklddaaXH1
import Derived.Test.YtimlgpfcgklddaaXV1
/-
Two walks over one list beside the document's two.
-/
namespace Go.Proofs.Ytimlgpfcgklddaa
open Go.RowKit Go.Proofs.YtimlgpfcgklddaaW.PrintWords
set_option linter.unusedVariables false
theorem and1_i64 (z : Int) : bits .and .i64 z 1 = 0 ∨ bits .and .i64 z 1 = 1 := by
  have e3 : bits .and .i64 z 1 = IntKind.i64.wrap (((BitVec.ofInt 64 z &&& BitVec.ofInt 64 1).toNat : Nat) : Int) := rfl
  have e4 : (BitVec.ofInt 64 z &&& BitVec.ofInt 64 1).toNat = (BitVec.ofInt 64 z).toNat % 2 := by
    rw [BitVec.toNat_and, show (BitVec.ofInt 64 1).toNat = 1 from by decide, Nat.and_one_is_mod]
  rw [e3, e4, IntKind.wrap_i64]
  omega
theorem Lst.keep47 {w w' : World} {L base I : Nat} {bl : List Blk} {cells : Array Value} (h : Lst w L base bl) (hI : w.heap[I]? = some (.cells cells 47 (0, 0))) (hg : w.grownBy w' (some I)) : Lst w' L base bl := by
  obtain ⟨vb, n, h1, h2⟩ := h.v
  refine ⟨⟨vb, n, blk_grown h1 hg (fun e => by injection e with e; subst e; exact block_ne h1 hI (by decide)), h2.grown hg fun k e => by injection e with e; subst e; exact ⟨_, _, hI, by decide, by decide⟩⟩, h.ok, h.len⟩
theorem Itr.other47 {w w' : World} {I J L base : Nat} {bl : List Blk} {s : ISt} {cells : Array Value} (h : Itr w I base L bl s) (hI : w.heap[J]? = some (.cells cells 47 (0, 0))) (hne : I ≠ J) (hg : w.grownBy w' (some J)) : Itr w' I base L bl s := by
  obtain ⟨vp, h1, h2⟩ := h.v
  exact ⟨⟨vp, blk_grown h1 hg (fun e => by injection e with e; exact hne e), h2.grown hg (fun k c e hk => by injection e with e; subst e; exact block_ne hI hk (by decide)) (fun k c e hk => by injection e with e; subst e; exact block_ne hI hk (by decide))⟩, h.l.keep47 hI hg, h.at0, h.nx, h.plen⟩
namespace P
open Go.Shelf Go.Proofs.YtimlgpfcgklddaaW.PrintWords Go.Proofs.YtimlgpfcgklddaaW.PrintLast Go.Proofs.YtimlgpfcgklddaaW.PrintMore
/-- Two walks (I, J) and the document's (P, Q), at their places; two rows X and Y hold them. -/
structure Wq (L : List S58) (w0 w : World) (bs B : Nat) (Ap : Option Addr) (cp X Y : Nat) (cX cY : Obj) (I J P Q : Nat) (gi gj gp gq : Int) : Prop where
  hx : w.heap[X]? = some cX
  hy : w.heap[Y]? = some cY
  wi : Wk L w I bs B gi
  wj : Wk L w J bs B gj
  yp : Yk w0 w P Ap cp L gp
  yq : Yk w0 w Q Ap cp L gq
  sz : bs ≤ w.heap.size
  ne : I ≠ J ∧ P ≠ Q ∧ I ≠ P ∧ I ≠ Q ∧ J ≠ P ∧ J ≠ Q
  nx : X ≠ I ∧ X ≠ J ∧ X ≠ P ∧ X ≠ Q ∧ Y ≠ I ∧ Y ≠ J ∧ Y ≠ P ∧ Y ≠ Q
  ge : w0.heap.size ≤ I ∧ w0.heap.size ≤ J
variable {L : List S58} {w0 w w' : World} {bs B : Nat} {Ap : Option Addr} {cp X Y : Nat} {cX cY : Obj} {I J P Q : Nat} {gi gj gp gq t : Int}
theorem Wq.swap (h : Wq L w0 w bs B Ap cp X Y cX cY I J P Q gi gj gp gq) : Wq L w0 w bs B Ap cp X Y cX cY J I Q P gj gi gq gp := by
  obtain ⟨n1, n2, n3, n4, n5, n6⟩ := h.ne
  obtain ⟨m1, m2, m3, m4, m5, m6, m7, m8⟩ := h.nx
  exact ⟨h.hx, h.hy, h.wj, h.wi, h.yq, h.yp, h.sz, ⟨n1.symm, n2.symm, n6, n5, n4, n3⟩, ⟨m2, m1, m4, m3, m6, m5, m8, m7⟩, h.ge.2, h.ge.1⟩
theorem Wq.below (h : Wq L w0 w bs B Ap cp X Y cX cY I J P Q gi gj gp gq) (hb : Below w.heap.size w w') : Wq L w0 w' bs B Ap cp X Y cX cY I J P Q gi gj gp gq :=
  ⟨by rw [hb.block X (Array.getElem?_eq_some_iff.1 h.hx).1]; exact h.hx, by rw [hb.block Y (Array.getElem?_eq_some_iff.1 h.hy).1]; exact h.hy, h.wi.below hb, h.wj.below hb, h.yp.below hb, h.yq.below hb, Nat.le_trans h.sz hb.size, h.ne, h.nx, h.ge⟩
theorem hold_ {w w' : World} {X J : Nat} {c : Obj} (h : w.heap[X]? = some c) (hne : X ≠ J) (hg : w.grownBy w' (some J)) : w'.heap[X]? = some c := by
  rw [hg.block X (Array.getElem?_eq_some_iff.1 h).1 (fun e => hne (by injection e))]
  exact h
theorem Wq.stepI (h : Wq L w0 w bs B Ap cp X Y cX cY I J P Q gi gj gp gq) (hg : w.grownBy w' (some I)) (h' : Wk L w' I bs B t) : Wq L w0 w' bs B Ap cp X Y cX cY I J P Q t gj gp gq := by
  obtain ⟨n1, n2, n3, n4, n5, n6⟩ := h.ne
  obtain ⟨m1, m2, m3, m4, m5, m6, m7, m8⟩ := h.nx
  exact ⟨hold_ h.hx m1 hg, hold_ h.hy m5 hg, h', h.wj.other h.wi n1.symm hg, h.yp.other n3.symm h.ge.1 hg, h.yq.other n4.symm h.ge.1 hg, Nat.le_trans h.sz hg.size, h.ne, h.nx, h.ge⟩
theorem Wk.other47 {g : Int} {cells : Array Value} (h : Wk L w I bs B g) (hJ : w.heap[P]? = some (.cells cells 47 (0, 0))) (hne : I ≠ P) (hg : w.grownBy w' (some P)) : Wk L w' I bs B g := ⟨h.it.other47 hJ hne hg, h.g0, h.g1⟩
theorem Wq.stepP (h : Wq L w0 w bs B Ap cp X Y cX cY I J P Q gi gj gp gq) (hg : w.grownBy w' (some P)) (h' : Yk w0 w' P Ap cp L t) : Wq L w0 w' bs B Ap cp X Y cX cY I J P Q gi gj t gq := by
  obtain ⟨n1, n2, n3, n4, n5, n6⟩ := h.ne
  obtain ⟨m1, m2, m3, m4, m5, m6, m7, m8⟩ := h.nx
  exact ⟨hold_ h.hx m3 hg, hold_ h.hy m7 hg, h.wi.other47 h.yp.v n3 hg, h.wj.other47 h.yp.v n5 hg, h', h.yq.other n2.symm h.yp.ge hg, Nat.le_trans h.sz hg.size, h.ne, h.nx, h.ge⟩
/-- One of the two, by the lowest bit. -/
theorem Wq.bit {gi gj : Int} (h : Wq L w0 w bs B Ap cp X Y (.cells #[.pointer (some ⟨I, 0, none⟩), .pointer (some ⟨J, 0, none⟩)] 42 (0, 0)) (.cells #[.pointer (some ⟨P, 0, none⟩), .pointer (some ⟨Q, 0, none⟩)] 45 (0, 0)) I J P Q gi gj gi gj) (z : Int) :
    ∃ (b : Nat) (I' J' P' Q' : Nat) (g' h' : Int), b < 2 ∧ bits .and .i64 z 1 = (b : Int) ∧ w.cell? ⟨X, b, none⟩ = some (.pointer (some ⟨I', 0, none⟩)) ∧ w.cell? ⟨Y, b, none⟩ = some (.pointer (some ⟨P', 0, none⟩)) ∧
      Wq L w0 w bs B Ap cp X Y (.cells #[.pointer (some ⟨I, 0, none⟩), .pointer (some ⟨J, 0, none⟩)] 42 (0, 0)) (.cells #[.pointer (some ⟨P, 0, none⟩), .pointer (some ⟨Q, 0, none⟩)] 45 (0, 0)) I' J' P' Q' g' h' g' h' ∧
      ∀ (W : World) (t : Int), Wq L w0 W bs B Ap cp X Y (.cells #[.pointer (some ⟨I, 0, none⟩), .pointer (some ⟨J, 0, none⟩)] 42 (0, 0)) (.cells #[.pointer (some ⟨P, 0, none⟩), .pointer (some ⟨Q, 0, none⟩)] 45 (0, 0)) I' J' P' Q' t h' t h' →
        ∃ gi gj, Wq L w0 W bs B Ap cp X Y (.cells #[.pointer (some ⟨I, 0, none⟩), .pointer (some ⟨J, 0, none⟩)] 42 (0, 0)) (.cells #[.pointer (some ⟨P, 0, none⟩), .pointer (some ⟨Q, 0, none⟩)] 45 (0, 0)) I J P Q gi gj gi gj := by
  rcases and1_i64 z with hz | hz
  · exact ⟨0, I, J, P, Q, gi, gj, by omega, hz, blk_cell h.hx 0, blk_cell h.hy 0, h, fun W t hW => ⟨_, _, hW⟩⟩
  · exact ⟨1, J, I, Q, P, gj, gi, by omega, hz, blk_cell h.hx 1, blk_cell h.hy 1, h.swap, fun W t hW => ⟨_, _, hW.swap⟩⟩
end P
end Go.Proofs.Ytimlgpfcgklddaa
