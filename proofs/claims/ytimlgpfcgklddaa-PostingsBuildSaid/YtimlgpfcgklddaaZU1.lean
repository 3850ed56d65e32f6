/-
Texts of this seat, laid together: U1.
-/
import Derived.Test.YtimlgpfcgklddaaZE1
import Derived.Test.YtimlgpfcgklddaaZS1
import Derived.Test.YtimlgpfcgklddaaZT1
import Derived.Test.YtimlgpfcgklddaaZR7
/-
The law PostingsBuild: it answers true for all posts.
-/
namespace Go.Proofs.Ytimlgpfcgklddaa.P
open Go.RowKit Go.Shelf Go.Proofs.YtimlgpfcgklddaaW.PrintWords Go.Proofs.YtimlgpfcgklddaaW.PrintLast Go.Proofs.YtimlgpfcgklddaaW.PrintMore
set_option linter.unusedVariables false
set_option linter.unusedSimpArgs false
theorem BuildR_calls (A : Option Addr) (l : List S58) (c : Nat) (w : World) (h : Kd.C k58 w A l.length l) (hc : l.length ≤ c) (hl : l.length ≤ 1048576) (hp : ∀ p ∈ l, p.f1.length * 8 ≤ 140737488351232) :
    Calls Try.prog 10 #[.slice A l.length c] w fun e w' => ∃ A' c', e = .returned (.tuple #[.slice A' (refOf l).1.length c', .int .i64 (refOf l).2]) ∧ (refOf l).1.length ≤ c' ∧ Lx .u8 5 w' w.heap.size (.slice A' (refOf l).1.length c') (refOf l).1 ∧ Below w.heap.size w w' := by
  refine (Build_calls A l c w h hc 17592186044416 (fun p hm => by have := hp p hm; omega) (by decide) (by omega)).mono ?_
  rintro e w' ⟨v, rfl, h1, _, h2⟩
  have e1 : (if rightB (-1) 0 l = true then formOf l else []) = (refOf l).1 := by unfold refOf; split <;> rfl
  have e2 : (if rightB (-1) 0 l = true then (0 : Int) else 1) = (refOf l).2 := by unfold refOf; split <;> rfl
  rw [e1] at h1
  rw [e2]
  obtain ⟨A', c', rfl, hc', _⟩ := h1.reads
  exact ⟨A', c', rfl, hc', h1, h2⟩
theorem ap2 {W : World} {base : Nat} {vx vy : Value} {F : List Int} (hx : Lx .u8 5 W base vx F) (hy : Lx .u8 5 W base vy F) (hxy : Apart2 vx vy) : Ap .u8 5 W base 2 (fun j => if j = 0 then vx else vy) (fun _ => F) := by
  refine ⟨fun j hj => ?_, fun i j hi hj hij => ?_⟩
  · rcases (by omega : j = 0 ∨ j = 1) with rfl | rfl
    · exact hx
    · exact hy
  · rcases (by omega : (i = 0 ∧ j = 1) ∨ (i = 1 ∧ j = 0)) with ⟨rfl, rfl⟩ | ⟨rfl, rfl⟩
    · exact hxy
    · exact hxy.symm
theorem cs2 (x y : Value) : ∀ j, j < 2 → (#[x, y] : Array Value)[j]? = some (if j = 0 then x else y) := by
  intro j hj
  rcases (by omega : j = 0 ∨ j = 1) with rfl | rfl
  · rfl
  · rfl
set_option maxRecDepth 100000 in
set_option maxHeartbeats 4000000 in
theorem PostingsBuild_calls (A : Option Addr) (l : List S58) (c : Nat) (w : World) (h : Kd.C k58 w A l.length l) (hc : l.length ≤ c) (hp : ∀ p ∈ l, p.f1.length * 8 ≤ 140737488351232) :
    Calls Try.prog 3 #[.slice A l.length c] w fun e w' => e = .returned (.bool true) ∧ Below w.heap.size w w' := by
  have hmx := Kd.C_max h
  by_cases hl : l.length ≤ 200
  · have H := Aside0.mk h
    have HP := Aside0.mk hp
    have HBu : Aside0 (∀ W A1 c1, Kd.C k58 W A1 l.length l → l.length ≤ c1 → Calls Try.prog 10 #[.slice A1 l.length c1] W fun e w' => ∃ A' c', e = .returned (.tuple #[.slice A' (refOf l).1.length c', .int .i64 (refOf l).2]) ∧ (refOf l).1.length ≤ c' ∧ Lx .u8 5 w' W.heap.size (.slice A' (refOf l).1.length c') (refOf l).1 ∧ Below W.heap.size W w') := ⟨fun W A1 c1 hC hc1 => BuildR_calls A1 l c1 W hC hc1 (by omega) hp⟩
    have HRe : Aside0 (∀ W A1 c1, Kd.C k86 W A1 (l.map to86).length (l.map to86) → (l.map to86).length ≤ c1 → Calls Try.prog 11 #[.slice A1 (l.map to86).length c1] W fun e w' => ∃ A' c', e = .returned (.tuple #[.slice A' (refOf l).1.length c', .int .i64 (refOf l).2]) ∧ (refOf l).1.length ≤ c' ∧ (Kd.int .u8).C w' A' (refOf l).1.length (refOf l).1 ∧ Below W.heap.size W w') := ⟨fun W A1 c1 hC hc1 => refB_calls A1 l c1 W hC hc1 (by omega) (fun p hm => by have := hp p hm; omega)⟩
    have HPl : Aside0 (∀ W, Below w.heap.size w W → Calls Try.prog 12 #[.slice A l.length c] W fun e w' => ∃ A' c', e = .returned (.slice A' (l.map to86).length c') ∧ (l.map to86).length ≤ c' ∧ Kd.C k86 w' A' (l.map to86).length (l.map to86) ∧ Below W.heap.size W w') := ⟨fun W hW => plain_calls A l c W (Kd.C_below h hW) hc (by omega)⟩
    obtain ⟨ls, hls⟩ : ∃ ls, l.map to86 = ls := ⟨_, rfl⟩
    rw [hls] at HRe HPl
    obtain ⟨F, hF⟩ : ∃ F, (refOf l).1 = F := ⟨_, rfl⟩
    obtain ⟨E, hE⟩ : ∃ E, (refOf l).2 = E := ⟨_, rfl⟩
    rw [hF, hE] at HBu HRe
    have HB13 : Aside0 (∀ W A0 A1 c0 c1, (Kd.int .u8).C W A0 F.length F → F.length ≤ c0 → (Kd.int .u8).C W A1 F.length F → F.length ≤ c1 → Calls Try.prog 13 #[.slice A0 F.length c0, .slice A1 F.length c1] W fun e w' => e = .returned (.bool true) ∧ Below W.heap.size W w') := ⟨fun W A0 A1 c0 c1 h0 hc0 h1 hc1 => (Bytes13_calls A0 A1 c0 c1 F F W h0 hc0 h1 hc1).mono fun e w' h => ⟨by rw [h.1, decide_eq_true rfl], h.2.below⟩⟩
    have HFL : Aside0 (F.length ≤ 140737488350000) := ⟨by
      rw [← hF]
      unfold refOf
      split
      · rename_i hr
        have h1 := (blocks_bounds l hr ((l.length + 7) / 8)).2.2
        have h2 : formOf l = (blocksOf l (List.range ((l.length + 7) / 8))).2 := rfl
        show (formOf l).length ≤ _
        rw [h2]
        omega
      · simp⟩
    clear h hp hls hF hE
    go_enter Try.func3, Try.ntmps3
    go_wp2_with (first
      | (go_at_call 8; ((with_reducible refine (awake_calls _).mono ?_)); rintro e x9 ⟨rfl, hb⟩; have HB9 := Aside0.mk (HB8.out.trans (hb.mono HB8.out.size)); clear hb)
      | (go_at_call 15; ((with_reducible refine (ApartBytes_calls x7.heap.size 2 2 w.heap.size #[.slice Ax F.length cx, .slice Ay F.length cy] (fun j => if j = 0 then .slice Ax F.length cx else .slice Ay F.length cy) (fun _ => F) _ (blk_new x7 _) ?q1 ?q2 ?q3 (by decide) (by decide) ?q4).mono ?_)); (case q1 => exact cs2 _ _); (case q2 => exact HAP.out); (case q3 => exact Below.size (below_alloc HB7.out _)); (case q4 => intro j _; exact HFL.out); rintro e x8 ⟨rfl, hb⟩; have HB8 := Aside0.mk ((below_alloc HB7.out (.cells #[.slice Ax F.length cx, .slice Ay F.length cy] 25)).trans hb); clear hb)
      | (go_at_call 14; ((with_reducible refine (kept_calls A A3 l c c3 w.heap.size _ (Kd.C_below H.out HB6.out) hc hl HP.out (HLP.out.below HB16.out)).mono ?_)); rintro e x7 ⟨rfl, hb⟩; have HB7 := Aside0.mk (HB6.out.trans (hb.mono HB6.out.size)); have HAP := Aside0.mk (ap2 (Lx.alloc (Lx.below (Lx.below HX.out HB26.out) hb) (.cells #[.slice Ax F.length cx, .slice Ay F.length cy] 25)) (Lx.alloc (Lx.below (Lx.below HY.out HB36.out) hb) (.cells #[.slice Ax F.length cx, .slice Ay F.length cy] 25)) HXY.out); clear hb)
      | (go_at_call 13; ((with_reducible refine (HB13.out _ Ay Aw cy cw (Lx.reads' (Lx.below HY.out HB35.out)).2.2 hcy (Kd.C_below HCw.out HB45.out) hcw).mono ?_)); rintro e x6 ⟨rfl, hb⟩; have HB6 := Aside0.mk (HB5.out.trans (hb.mono HB5.out.size)); have HB16 := Aside0.mk (HB15.out.trans (hb.mono HB15.out.size)); have HB26 := Aside0.mk (HB25.out.trans (hb.mono HB25.out.size)); have HB36 := Aside0.mk (HB35.out.trans (hb.mono HB35.out.size)); clear hb)
      | (go_at_call 13; ((with_reducible refine (HB13.out _ Ax Aw cx cw (Lx.reads' (Lx.below HX.out HB24.out)).2.2 hcx HCw.out hcw).mono ?_)); rintro e x5 ⟨rfl, hb⟩; have HB5 := Aside0.mk (HB4.out.trans (hb.mono HB4.out.size)); have HB15 := Aside0.mk (HB14.out.trans (hb.mono HB14.out.size)); have HB25 := Aside0.mk (HB24.out.trans (hb.mono HB24.out.size)); have HB35 := Aside0.mk (HB34.out.trans (hb.mono HB34.out.size)); have HB45 := Aside0.mk hb; clear hb)
      | (go_at_call 11; ((with_reducible refine (HRe.out _ Ap cp HCp.out hcp).mono ?_)); rintro e x4 ⟨Aw, cw, rfl, hcw, hCw, hb⟩; have HCw := Aside0.mk hCw; have HB4 := Aside0.mk (HB3p.out.trans (hb.mono HB3p.out.size)); have HB14 := Aside0.mk (HB13p.out.trans (hb.mono HB13p.out.size)); have HB24 := Aside0.mk (HB23p.out.trans (hb.mono HB23p.out.size)); have HB34 := Aside0.mk (HB33p.out.trans (hb.mono HB33p.out.size)); clear hCw hb)
      | (go_at_call 12; ((with_reducible refine (HPl.out _ HB3.out).mono ?_)); rintro e x3p ⟨Ap, cp, rfl, hcp, hCp, hb⟩; have HCp := Aside0.mk hCp; have HB3p := Aside0.mk (HB3.out.trans (hb.mono HB3.out.size)); have HB13p := Aside0.mk (HB133.out.trans (hb.mono HB133.out.size)); have HB23p := Aside0.mk (HB23.out.trans (hb.mono HB23.out.size)); have HB33p := Aside0.mk hb; clear hCp hb)
      | (go_at_call 10; ((with_reducible refine (HBu.out _ A3 c3 (Kd.C_below HC3.out HB12.out) hc3).mono ?_)); rintro e x3 ⟨Ay, cy, rfl, hcy, hy, hb⟩; have HY := Aside0.mk (Lx.lower hy HB2.out.size); have HXY := Aside0.mk (show Apart2 (.slice Ax F.length cx) (.slice Ay F.length cy) from fun j hj e1 => (by have h1 := Lax.lt HX.out j hj; have h2 := Lax.base_le hy j e1.symm; omega)); have HB3 := Aside0.mk (HB2.out.trans (hb.mono HB2.out.size)); have HB133 := Aside0.mk (HB12.out.trans (hb.mono HB12.out.size)); have HB23 := Aside0.mk hb; clear hy hb)
      | (go_at_call 10; ((with_reducible refine (HBu.out _ A3 c3 HC3.out hc3).mono ?_)); rintro e x2 ⟨Ax, cx, rfl, hcx, hx, hb⟩; have HX := Aside0.mk (Lx.lower hx HB1.out.size); have HB2 := Aside0.mk (HB1.out.trans (hb.mono HB1.out.size)); have HB12 := Aside0.mk hb; clear hx hb)
      | (go_at_call 9; ((with_reducible refine (lent_calls A l c _ H.out hc hl HP.out).mono ?_)); rintro e x1 ⟨v3, rfl, hlp, hb⟩; obtain ⟨A3, c3, rfl, hc3', _⟩ := id hlp; have hc3 : l.length ≤ c3 := (by omega); have HC3 := Aside0.mk (hlp.reads (by omega)).2.2; have HLP := Aside0.mk hlp; have HB1 := Aside0.mk hb; clear hlp hb))
    go_ret
    exact ⟨rfl, HB9.out⟩
  · have hg : (l.length : Int) > 200 := by omega
    clear h
    go_enter Try.func3, Try.ntmps3
    go_wp2_with (go_at_call 8; ((with_reducible refine (awake_calls _).mono ?_)); rintro e x9 ⟨rfl, hb⟩; have HB9 := Aside0.mk hb; clear hb)
    go_ret
    exact ⟨rfl, HB9.out⟩
end Go.Proofs.Ytimlgpfcgklddaa.P
