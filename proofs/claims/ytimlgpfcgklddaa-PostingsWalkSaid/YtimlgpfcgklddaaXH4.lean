/-
Texts of this seat, laid together: H4, V3.
-/
import Derived.Test.YtimlgpfcgklddaaXV1
import Derived.Test.YtimlgpfcgklddaaXH3
/-
The law PostingsWalk, all cases.
-/
namespace Go.Proofs.Ytimlgpfcgklddaa.P
open Go.RowKit Go.Shelf Go.Proofs.YtimlgpfcgklddaaW.PrintWords Go.Proofs.YtimlgpfcgklddaaW.PrintLast Go.Proofs.YtimlgpfcgklddaaW.PrintMore
set_option linter.unusedVariables false
set_option linter.unusedSimpArgs false
set_option maxRecDepth 100000 in
set_option maxHeartbeats 4000000 in
theorem Walk_calls (A A2 : Option Addr) (l : List S58) (c c2 n2 : Nat) (D : Nat → Int × Int × Int) (w : World) (h : Kd.C k58 w A l.length l) (hc : l.length ≤ c) (hM : Mvs w A2 n2 D) (hcM : n2 ≤ c2) (hp : ∀ p ∈ l, p.f1.length * 8 ≤ 140737488351232) (hn : l.length ≤ 4398046511103) :
    Calls Try.prog 4 #[.slice A l.length c, .slice A2 n2 c2] w fun e w' => e = .returned (.bool true) ∧ Below w.heap.size w w' := by
  by_cases hall : l.length ≤ 200 ∧ n2 ≤ 1000 ∧ rightB (-1) 0 l = true
  · exact Walk_main A A2 l c c2 n2 D w h hc hM hcM hp hall.1 hall.2.1 hall.2.2
  · have hmD := hM.len
    obtain ⟨F, hF⟩ : ∃ F, (refOf l).1 = F := ⟨_, rfl⟩
    obtain ⟨E, hE⟩ : ∃ E, (refOf l).2 = E := ⟨_, rfl⟩
    have hEr : E ≠ 0 ∨ rightB (-1) 0 l = true := by
      rw [← hE]
      unfold refOf
      cases rightB (-1) 0 l
      · left; rw [if_neg (by decide)]; exact (by decide : (1 : Int) ≠ 0)
      · right; rfl
    have HPl : Aside0 (Calls Try.prog 12 #[.slice A l.length c] w fun e w' => ∃ A' c', e = .returned (.slice A' l.length c') ∧ l.length ≤ c' ∧ Kd.C k86 w' A' l.length (l.map to86) ∧ Below w.heap.size w w') := ⟨by
      have := plain_calls A l c w h hc (by omega)
      rw [List.length_map] at this
      exact this⟩
    have HRe : Aside0 (∀ W A1 c1, Kd.C k86 W A1 l.length (l.map to86) → l.length ≤ c1 → Calls Try.prog 11 #[.slice A1 l.length c1] W fun e w' => ∃ A' c', e = .returned (.tuple #[.slice A' F.length c', .int .i64 E]) ∧ Below W.heap.size W w') := ⟨fun W A1 c1 hC hc1 => by
      have := refB_calls A1 l c1 W (by rw [List.length_map]; exact hC) (by rw [List.length_map]; exact hc1) (by omega) (fun p hm => by have := hp p hm; omega)
      rw [hF, hE, List.length_map] at this
      exact this.mono fun e w' ⟨A', c', h1, _, _, h2⟩ => ⟨A', c', h1, h2⟩⟩
    clear h hM hp hF hE
    by_cases h1 : l.length ≤ 200
    · by_cases h2 : n2 ≤ 1000
      · have h3 : E ≠ 0 := by
          rcases hEr with h | h
          · exact h
          · exact absurd ⟨h1, h2, h⟩ hall
        have h1' : decide ((200 : Int) < (l.length : Int)) = false := decide_eq_false (by omega)
        have h2' : decide ((1000 : Int) < (n2 : Int)) = false := decide_eq_false (by omega)
        have h1n : decide (200 < l.length) = false := decide_eq_false (by omega)
        have h2n : decide (1000 < n2) = false := decide_eq_false (by omega)
        clear hall hEr
        go_enter Try.func4, Try.ntmps4
        go_wp2_with (first
          | (go_at_call 8; ((with_reducible refine (awake_calls _).mono ?_)); rintro e x2 ⟨rfl, hb⟩; have HB2 := Aside0.mk (HB1.out.trans (hb.mono HB1.out.size)); clear hb)
          | (go_at_call 11; ((with_reducible refine (HRe.out _ Ap cp HCp.out hcp).mono ?_)); rintro e x1 ⟨Af, cf, rfl, hb⟩; have HB1 := Aside0.mk (HB0.out.trans (hb.mono HB0.out.size)); clear hb)
          | (go_at_call 12; ((with_reducible refine (HPl.out).mono ?_)); rintro e x0 ⟨Ap, cp, rfl, hcp, hCp, hb⟩; have HCp := Aside0.mk hCp; have HB0 := Aside0.mk hb; clear hCp hb))
        go_ret
        exact ⟨rfl, HB2.out⟩
      · have h1' : decide ((200 : Int) < (l.length : Int)) = false := decide_eq_false (by omega)
        have h2' : decide ((1000 : Int) < (n2 : Int)) = true := decide_eq_true (by omega)
        have h1n : decide (200 < l.length) = false := decide_eq_false (by omega)
        have h2n : decide (1000 < n2) = true := decide_eq_true (by omega)
        clear hall hEr
        go_enter Try.func4, Try.ntmps4
        go_wp2_with (first
          | (go_at_call 8; ((with_reducible refine (awake_calls _).mono ?_)); rintro e x2 ⟨rfl, hb⟩; have HB2 := Aside0.mk (HB1.out.trans (hb.mono HB1.out.size)); clear hb)
          | (go_at_call 11; ((with_reducible refine (HRe.out _ Ap cp HCp.out hcp).mono ?_)); rintro e x1 ⟨Af, cf, rfl, hb⟩; have HB1 := Aside0.mk (HB0.out.trans (hb.mono HB0.out.size)); clear hb)
          | (go_at_call 12; ((with_reducible refine (HPl.out).mono ?_)); rintro e x0 ⟨Ap, cp, rfl, hcp, hCp, hb⟩; have HCp := Aside0.mk hCp; have HB0 := Aside0.mk hb; clear hCp hb))
        go_ret
        exact ⟨rfl, HB2.out⟩
    · have h1' : decide ((200 : Int) < (l.length : Int)) = true := decide_eq_true (by omega)
      have h1n : decide (200 < l.length) = true := decide_eq_true (by omega)
      clear hall hEr
      go_enter Try.func4, Try.ntmps4
      go_wp2_with (first
        | (go_at_call 8; ((with_reducible refine (awake_calls _).mono ?_)); rintro e x2 ⟨rfl, hb⟩; have HB2 := Aside0.mk (HB1.out.trans (hb.mono HB1.out.size)); clear hb)
        | (go_at_call 11; ((with_reducible refine (HRe.out _ Ap cp HCp.out hcp).mono ?_)); rintro e x1 ⟨Af, cf, rfl, hb⟩; have HB1 := Aside0.mk (HB0.out.trans (hb.mono HB0.out.size)); clear hb)
        | (go_at_call 12; ((with_reducible refine (HPl.out).mono ?_)); rintro e x0 ⟨Ap, cp, rfl, hcp, hCp, hb⟩; have HCp := Aside0.mk hCp; have HB0 := Aside0.mk hb; clear hCp hb))
      go_ret
      exact ⟨rfl, HB2.out⟩
end Go.Proofs.Ytimlgpfcgklddaa.P
/-
An argument that is a slice of posts: how long it may be.
-/
namespace Go.Proofs.Ytimlgpfcgklddaa
open Go.ChangeShapes Go.WideShapes Go.ChangeAt Go.RowKit Go.Proofs.YtimlgpfcgklddaaW.PrintWords
set_option linter.unusedVariables false
theorem posts_len {H : Type} {enc : TypeId × Value → H} {W : World} {base : Nat} {spare : Nat → Bool} {held : Bool} {a : Option Addr} {len cap : Nat} {d : DataW H} {ps : List MemPlace}
    (h : DataW.Trod enc Try.prog W base spare held 22 (.slice a len cap) d ps) (hsz : ∀ n ∈ d.weights Try.prog 22, n ≤ reachBytes) : len ≤ 4398046511103 := by
  obtain ⟨fuel, hf⟩ := h
  rcases Go.Deep.open_slice_pairs Try.underlying22 Try.underlying58 (by kernel_rfl) rfl rfl (by kernel_rfl) (by kernel_rfl) hf with ⟨hcs, _⟩ | ⟨x, l, c, m, n, V0, V1, D0, D1, P0, P1, hcs, _, hl, hm, hmm, hx, hcell⟩
  · simp [Value.cells] at hcs
    obtain ⟨rfl, rfl, rfl⟩ := hcs
    exact Nat.zero_le _
  · simp [Value.cells] at hcs
    obtain ⟨rfl, rfl, rfl⟩ := hcs
    injection hx with hx1 _
    have := hsz _ (by rw [hx1]; simp only [DataW.weights, Try.underlying22]; exact List.mem_cons_self ..)
    rw [show Try.prog.bytesOf 58 = 32 from by kernel_rfl] at this
    simp only [List.length_map, List.length_range, reachBytes] at this
    omega
end Go.Proofs.Ytimlgpfcgklddaa
