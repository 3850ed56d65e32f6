/-
Texts of this seat, laid together: A16.
-/
import Derived.OrdersIn
import Derived.TacticsIn
import Derived.Test.YtimlgpfcgklddaaQA13
namespace Go.Proofs.Ytimlgpfcgklddaa
theorem wpOpIn_inRound {F : Fence} {n : Nat} {P : Program} {ops : Array Oper} {Q : Exit → Act → World → Prop} (l : Nat) (hro : F.round = none) (hd : ∀ (i : Nat) o, ops[i]? = some o → ∀ c, o.op ≠ .defer c) (i : Nat) (K : Act → World → Prop) (a : Act) (w : World) (h : wpOpIn F n P ops Q i K a w) :
    wpOpIn (F.inRound l) n P ops Q i K a w := by
  unfold wpOpIn at *
  cases hi : ops[i]? with
  | none => rw [hi] at h; exact h
  | some o =>
    rw [hi] at h
    dsimp only at h ⊢
    split
    · rename_i hw
      rw [if_pos hw] at h
      unfold Oper.wpIn at *
      rw [hro, Oper.semAt_none] at h
      rw [Fence.inRound_round, Oper.semAt_some l a.eval o (hd i o hi)]
      refine ⟨h.1, ?_⟩
      have h2 := h.2
      generalize (execOp a.eval o).run P w = r at *
      cases r with
      | ok x w' =>
        cases x <;> simp only [Oper.uponIn] at h2 ⊢ <;> exact h2
      | halt x w' =>
        cases x <;> simp only [Oper.uponIn] at h2 ⊢ <;> exact h2
    · rename_i hw
      rw [if_neg hw] at h
      exact h
theorem wpOpsIn_inRound {F : Fence} {n : Nat} {P : Program} {ops : Array Oper} {Q : Exit → Act → World → Prop} (l : Nat) (hro : F.round = none) (hd : ∀ (i : Nat) o, ops[i]? = some o → ∀ c, o.op ≠ .defer c) :
    ∀ (is : List Nat) (a : Act) (w : World), wpOpsIn F n P ops Q is a w → wpOpsIn (F.inRound l) n P ops Q is a w
  | [], a, w, h => h
  | i :: is, a, w, h => by
    rw [wpOpsIn_cons] at h ⊢
    exact wpOpIn_mono (wpOpsIn_inRound l hro hd is) (wpOpIn_inRound l hro hd i _ a w h)
def noDefer (ops : List Oper) : Bool := ops.all fun o => match o.op with
  | .defer _ => false
  | _ => true
theorem wpIn_region_inRound {F : Fence} {n : Nat} {P : Program} {l : Nat} {ops : List Oper} {Q : Exit → Act → World → Prop} {id : Nat} {a : Act} {w : World} (hro : F.round = none) (hm : P.follows .mixedOrders = true) (hd : noDefer ops = true)
    (h : wpAnyIn F n P .any ops.toArray Q ops.toArray.size (Array.replicate ops.toArray.size false) a w.drew) : (Code.region id ops.toArray true).wpIn (F.inRound l) n P Q a w :=
  wpIn_region_draw fun t => by
    simp only [Region.schedule, hm, Bool.true_or, if_true]
    refine wpOpsIn_inRound l hro (fun i o hi c hc => ?_) _ _ _ (wpAnyIn_sound ops.toArray.size t _ a _ h)
    have h1 := List.all_eq_true.1 hd o (List.mem_of_getElem? (by simpa using hi))
    rw [hc] at h1
    cases h1
end Go.Proofs.Ytimlgpfcgklddaa
