/-
Texts of this seat, laid together: S1.
-/
import Derived.Test.YtimlgpfcgklddaaXF12
import Derived.Test.YtimlgpfcgklddaaXD5
/-
Numbers lent with a mark behind them; are they kept?
-/
namespace Go.Proofs.Ytimlgpfcgklddaa
open Go.RowKit Go.Proofs.YtimlgpfcgklddaaW.PrintWords
/-- A row of one's own with a mark behind it. -/
def LentI (w : World) (base : Nat) (v : Value) (xs : List Int) : Prop := ∃ A c, v = .slice A xs.length c ∧ xs.length + 1 ≤ c ∧ Lx .i64 3 w base (.slice A (xs.length + 1) c) (xs ++ [-7171])
theorem LentI.below {w w1 : World} {base : Nat} {v : Value} {xs : List Int} (h : LentI w base v xs) (hb : Below w.heap.size w w1) : LentI w1 base v xs := by
  obtain ⟨A, c, e, hc, hx⟩ := h
  exact ⟨A, c, e, hc, hx.below hb⟩
theorem LentI.lower {w : World} {base b : Nat} {v : Value} {xs : List Int} (h : LentI w base v xs) (hb : b ≤ base) : LentI w b v xs := by
  obtain ⟨A, c, e, hc, hx⟩ := h
  exact ⟨A, c, e, hc, hx.lower hb⟩
theorem LentI.grown {w w1 : World} {base : Nat} {v : Value} {xs : List Int} (h : LentI w base v xs) {row : Option Nat} (hg : w.grownBy w1 row) (hne : ∀ k cells, row = some k → w.heap[k]? = some (.cells cells 3 (0, 0)) → False) : LentI w1 base v xs := by
  obtain ⟨A, c, e, hc, hx⟩ := h
  refine ⟨A, c, e, hc, Lax.grown hx hg fun k hk ej => ?_⟩
  obtain ⟨cells, h1⟩ := Lax.typed hx k hk
  exact hne k cells ej.symm h1
theorem LentI.reads {w : World} {base : Nat} {A : Option Addr} {n c : Nat} {xs : List Int} (h : LentI w base (.slice A n c) xs) : n = xs.length ∧ n + 1 ≤ c ∧ (Kd.int .i64).C w A xs.length xs ∧ ∃ ad, A = some ad ∧ w.cell? (ad.add xs.length) = some (.int .i64 (-7171)) := by
  obtain ⟨A', c', e, hc, hx⟩ := h
  injection e with e1 e2 e3
  subst e1; subst e2; subst e3
  have hr := (Lx.reads' hx).2.2
  have hl : (xs ++ [(-7171 : Int)]).length = xs.length + 1 := by simp
  have h1 := P.C_take hr xs.length (by omega)
  rw [List.take_left] at h1
  obtain ⟨ad, e, hcell⟩ := Kd.at_int hr (xs.length : Int) (by omega) (by omega)
  rw [Int.toNat_natCast] at hcell
  have e5 : rd (xs ++ [(-7171 : Int)]) (xs.length : Int) = -7171 := by unfold rd; simp
  rw [e5] at hcell
  exact ⟨rfl, hc, h1, ad, e, hcell⟩
end Go.Proofs.Ytimlgpfcgklddaa
namespace Go.Proofs.Ytimlgpfcgklddaa.P
open Go.RowKit Go.Shelf Go.Proofs.YtimlgpfcgklddaaW.PrintWords Go.Proofs.YtimlgpfcgklddaaW.PrintLast Go.Proofs.YtimlgpfcgklddaaW.PrintMore
set_option linter.unusedVariables false
set_option linter.unusedSimpArgs false
theorem intsGo (x0 x1 : List Int) (h : x0.length = x1.length) (hm : x0.length ≤ 9223372036854775807) : ∀ (k j : Nat), x0.length < j + k → j ≤ x0.length → lecternkit_Ints.l0 k x0 x1 j = some (decide (x0.drop j = x1.drop j))
  | 0, j, h1, h2 => by omega
  | k + 1, j, h1, h2 => by
    rw [lecternkit_Ints.l0]
    by_cases hj : j < x0.length
    · rw [if_pos (by omega), if_pos (by omega), if_pos (by omega), drop_rd x0 j hj, drop_rd x1 j (by omega)]
      by_cases he : rd x0 j = rd x1 j
      · rw [if_pos he, wrap64_small (by omega) (by omega), he]
        have := intsGo x0 x1 h hm k (j + 1) (by omega) (by omega)
        rw [show ((j : Int) + 1) = ((j + 1 : Nat) : Int) from rfl, this]
        simp
      · rw [if_neg he]
        simp [he]
    · rw [if_neg (by omega), List.drop_eq_nil_of_le (by omega), List.drop_eq_nil_of_le (by omega)]
      simp
theorem Ints_calls (A0 A1 : Option Addr) (c0 c1 : Nat) (x0 x1 : List Int) (w : World) (h0 : (Kd.int .i64).C w A0 x0.length x0) (hc0 : x0.length ≤ c0) (h1 : (Kd.int .i64).C w A1 x1.length x1) (hc1 : x1.length ≤ c1) :
    Calls Try.prog 27 #[.slice A0 x0.length c0, .slice A1 x1.length c1] w fun e w' => e = .returned (.bool (decide (x0 = x1))) ∧ Drawn0 w w' := by
  refine lecternkit_Ints.calls (x0.length + 1) A0 c0 x0 A1 c1 x1 _ w h0 hc0 h1 hc1 ?_
  unfold lecternkit_Ints.f
  by_cases h : x0.length = x1.length
  · rw [if_pos (by omega)]
    exact intsGo x0 x1 h (Kd.C_max h0) (x0.length + 1) 0 (by omega) (by omega)
  · rw [if_neg (by omega)]
    have : ¬ x0 = x1 := fun e => h (by rw [e])
    simp [this]
set_option maxHeartbeats 1000000 in
theorem LentInts_calls (A : Option Addr) (xs : List Int) (c : Nat) (w : World) (h : (Kd.int .i64).C w A xs.length xs) (hc : xs.length ≤ c) (hl : xs.length * 8 ≤ 140737488351232) :
    Calls Try.prog 40 #[.slice A xs.length c] w fun e w' => ∃ v, e = .returned v ∧ LentI w' w.heap.size v xs ∧ Below w.heap.size w w' := by
  have H := Aside0.mk h
  clear h
  go_enter Try.func40, Try.ntmps40
  go_wp2_with (first | ((with_reducible refine gate_builtin (b := .append) (xs := #[.tmp 4, .tmp 5]) rfl ?_); at_builtin; refine Lx.append_row (w0 := w) .i64 w.heap.size rfl (.tmp 4) (.tmp 5) 52 3 8 rfl Try.underlying52 info3 (by decide) (.slice none 0 0) [] xs A xs.length c rfl rfl (Lx.nil _ _ _ _) H.out (Below.refl _ _) (Nat.le_refl _) (by simp; omega) ?_; intro v1 w1 ho hb hg hat; rw [List.nil_append] at ho; have HO1 := Aside0.mk ho; have HB1 := Aside0.mk hb; clear ho hb hg hat) | ((with_reducible refine gate_builtin (b := .append) (xs := #[.tmp 7, .tmp 8]) rfl ?_); at_builtin; refine Lx.append_one (w0 := w) .i64 w.heap.size rfl (.tmp 7) (.tmp 8) 52 3 8 rfl Try.underlying52 info3 (by decide) v1 xs (-7171) rfl rfl HO1.out HB1.out HB1.out.size (by omega) ?_; intro v2 w2 ho hb hg hat; obtain ⟨A2, c2, rfl, hc2, _⟩ := ho.reads; rw [List.length_append, List.length_singleton] at hc2; rw [List.length_append, List.length_singleton] at ho; have HO2 := Aside0.mk ho; have HB2 := Aside0.mk hb; clear ho hb hg hat))
  go_ret
  exact ⟨_, rfl, ⟨A2, c2, rfl, hc2, HO2.out⟩, HB2.out⟩
set_option maxHeartbeats 1000000 in
theorem KeptInts_calls (A A1 : Option Addr) (xs : List Int) (c c1 base : Nat) (w : World) (h : LentI w base (.slice A xs.length c) xs) (h1 : (Kd.int .i64).C w A1 xs.length xs) (hc1 : xs.length ≤ c1) (hl : xs.length * 8 ≤ 140737488351232) :
    Calls Try.prog 49 #[.slice A xs.length c, .slice A1 xs.length c1] w fun e w' => e = .returned (.bool true) ∧ Drawn0 w w' := by
  obtain ⟨_, hc, hC, ad, rfl, hcell⟩ := h.reads
  have hm := Kd.C_max hC
  have HI : Aside0 (Calls Try.prog 27 #[.slice (some ad) xs.length c, .slice A1 xs.length c1] w fun e w' => e = .returned (.bool true) ∧ Drawn0 w w') := ⟨(Ints_calls (some ad) A1 c c1 xs xs w hC (by omega) h1 hc1).mono fun e w' h => ⟨by rw [h.1, decide_eq_true rfl], h.2⟩⟩
  have hnn : xs.length < xs.length + 1 := by omega
  obtain ⟨n, hn⟩ : ∃ n, xs.length = n := ⟨_, rfl⟩
  rw [hn] at hc hm HI hcell hnn hl ⊢
  clear h hC h1 hc1 hn
  go_enter Try.func49, Try.ntmps49
  go_wp2_with (go_at_call 27; ((with_reducible refine HI.out.mono ?_)); rintro e w1 ⟨rfl, hd⟩; obtain ⟨kd, rfl⟩ := hd.out)
  go_ret
  exact ⟨rfl, ⟨kd, rfl⟩⟩
end Go.Proofs.Ytimlgpfcgklddaa.P
