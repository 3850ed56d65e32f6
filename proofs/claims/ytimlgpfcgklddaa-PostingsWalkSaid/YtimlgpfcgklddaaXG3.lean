/-
Texts of this seat, laid together: G3.
-/
import Derived.Test.YtimlgpfcgklddaaXG1
import Derived.Test.YtimlgpfcgklddaaXE1
import Derived.Test.YtimlgpfcgklddaaXS1
/-
Walks at a place: what a round of the law PostingsGoOn asks of them.
-/
namespace Go.Proofs.Ytimlgpfcgklddaa
open Go.RowKit
set_option linter.unusedVariables false
theorem advG_ge (L : List P.S58) (g doc : Int) (h : -1 ≤ g) : g ≤ advG L g doc := by
  unfold advG
  omega
theorem advG_nonneg (L : List P.S58) (g doc : Int) : 0 ≤ advG L g doc := by
  unfold advG
  omega
namespace P
open Go.Shelf Go.Proofs.YtimlgpfcgklddaaW.PrintWords Go.Proofs.YtimlgpfcgklddaaW.PrintLast Go.Proofs.YtimlgpfcgklddaaW.PrintMore
theorem Wk.lt {L : List S58} {w : World} {I base B : Nat} {g : Int} (h : Wk L w I base B g) : I < w.heap.size := by
  obtain ⟨vp, h1, _⟩ := h.it.v
  exact (Array.getElem?_eq_some_iff.1 h1).1
theorem Wk.doc {L : List S58} {w : World} {I base B : Nat} {g d : Int} (h : Wk L w I base B g) (hd : docAt L g = d) : ∀ W, Below w.heap.size w W → Calls Try.prog 24 #[.pointer (some ⟨I, 0, none⟩)] W fun e w' => e = .returned (.int .i64 d) ∧ Below W.heap.size W w' := fun W hb =>
  (WDoc_calls L I base B g W (h.below hb)).mono fun e w' ⟨h1, n, h2⟩ => ⟨by rw [h1, hd], by subst h2; exact pw_below_drewN (Below.refl _ _) n⟩
theorem Wk.docN {L : List S58} {w : World} {I base B : Nat} {g d : Int} (h : Wk L w I base B g) (hd : docAt L g = d) : ∀ k, Calls Try.prog 24 #[.pointer (some ⟨I, 0, none⟩)] (w.drewN k) fun e w' => e = .returned (.int .i64 d) ∧ ∃ n, w' = w.drewN n := fun k =>
  (WDoc_calls L I base B g (w.drewN k) (h.below (pw_below_drewN (Below.refl _ _) k))).mono fun e w' ⟨h1, n, h2⟩ => ⟨by rw [h1, hd], by subst h2; exact (Drawn0.step ⟨⟨k, rfl⟩⟩ n).out⟩
theorem Wk.freqN {L : List S58} {w : World} {I base B : Nat} {g f : Int} (h : Wk L w I base B g) (hd : ((posAt L g).length : Int) = f) : ∀ k, Calls Try.prog 26 #[.pointer (some ⟨I, 0, none⟩)] (w.drewN k) fun e w' => e = .returned (.int .i64 f) ∧ ∃ n, w' = w.drewN n := fun k =>
  (WFreq_calls L I base B g (w.drewN k) (h.below (pw_below_drewN (Below.refl _ _) k))).mono fun e w' ⟨h1, n, h2⟩ => ⟨by rw [h1, hd], by subst h2; exact (Drawn0.step ⟨⟨k, rfl⟩⟩ n).out⟩
theorem Wk.freq {L : List S58} {w : World} {I base B : Nat} {g : Int} {ps : List Int} (h : Wk L w I base B g) (hd : posAt L g = ps) : ∀ W, Below w.heap.size w W → Calls Try.prog 26 #[.pointer (some ⟨I, 0, none⟩)] W fun e w' => e = .returned (.int .i64 (ps.length : Int)) ∧ Below W.heap.size W w' := fun W hb =>
  (WFreq_calls L I base B g W (h.below hb)).mono fun e w' ⟨h1, n, h2⟩ => ⟨by rw [h1, hd], by subst h2; exact pw_below_drewN (Below.refl _ _) n⟩
theorem Wk.pos {L : List S58} (hR : rightB (-1) 0 L = true) {w : World} {I base B : Nat} {g : Int} {ps : List Int} (h : Wk L w I base B g) (hd : posAt L g = ps) : ∀ W, Below w.heap.size w W → Calls Try.prog 22 #[.pointer (some ⟨I, 0, none⟩)] W fun e w' => ∃ A c, e = .returned (.slice A ps.length c) ∧ ps.length ≤ c ∧ (Kd.int .i64).C w' A ps.length ps ∧ Below W.heap.size W w' := fun W hb =>
  (WPos_calls L hR I base B g W (h.below hb)).mono fun e w' ⟨A, c, h1, h2, h3, h4⟩ => by
    rw [hd] at h1 h2 h3
    exact ⟨A, c, h1, h2, (Lx.reads' h3).2.2, h4⟩
theorem Ints_same (A0 A1 : Option Addr) (c0 c1 : Nat) (x : List Int) (w : World) (h0 : (Kd.int .i64).C w A0 x.length x) (hc0 : x.length ≤ c0) (h1 : (Kd.int .i64).C w A1 x.length x) (hc1 : x.length ≤ c1) :
    Calls Try.prog 27 #[.slice A0 x.length c0, .slice A1 x.length c1] w fun e w' => e = .returned (.bool true) ∧ Below w.heap.size w w' :=
  (Ints_calls A0 A1 c0 c1 x x w h0 hc0 h1 hc1).mono fun e w' h => ⟨by rw [h.1, decide_eq_true rfl], h.2.below⟩
end P
end Go.Proofs.Ytimlgpfcgklddaa
