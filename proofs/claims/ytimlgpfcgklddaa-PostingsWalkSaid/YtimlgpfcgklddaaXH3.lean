/-
Texts of this seat, laid together: H3.
-/
import Derived.Deep.RegionHeld3
import Derived.Test.YtimlgpfcgklddaaXH2
import Derived.Test.YtimlgpfcgklddaaXT1
/-
The law PostingsWalk: it answers true for all right posts and all moves, within its bounds.
-/
namespace Go.Proofs.Ytimlgpfcgklddaa
open Go.RowKit Go.Proofs.YtimlgpfcgklddaaW.PrintWords
set_option linter.unusedVariables false
theorem Mvs.get {w : World} {A : Option Addr} {n : Nat} {D : Nat → Int × Int × Int} (h : Mvs w A n D) (i : Nat) (hi : i < n) : ∃ x, A = some x ∧ w.cell? (x.add (i * 3)) = some (.int .i64 (D i).1) ∧ w.cell? ⟨(x.add (i * 3)).block, (x.add (i * 3)).off + 1, none⟩ = some (.int .i64 (D i).2.1) ∧ w.cell? ⟨(x.add (i * 3)).block, (x.add (i * 3)).off + 2, none⟩ = some (.int .i64 (D i).2.2) := by
  obtain ⟨x, e, hx⟩ := h.at_ (by omega)
  obtain ⟨h0, h1, h2⟩ := hx i hi
  exact ⟨x, e, h0, by rw [← add_field _ _ 1 (by omega)]; exact h1, by rw [← add_field _ _ 2 (by omega)]; exact h2⟩
namespace P
open Go.Shelf Go.Proofs.YtimlgpfcgklddaaW.PrintWords Go.Proofs.YtimlgpfcgklddaaW.PrintLast Go.Proofs.YtimlgpfcgklddaaW.PrintMore
set_option linter.unusedSimpArgs false
theorem Wq_start {l : List S58} {w0 x4 : World} {bs B : Nat} {Ap : Option Addr} {cp I J X : Nat} (hX : x4.heap.size = X) (hI : Wk l x4 I bs B (-1)) (hJ : Wk l x4 J bs B (-1)) (hIJ : I < J) (hI0 : w0.heap.size ≤ I) (hJ0 : w0.heap.size ≤ J) (hC : Kd.C k86 w0 Ap l.length (l.map to86)) (hcp : l.length ≤ cp) (hbs : bs ≤ x4.heap.size) (hB : Below w0.heap.size w0 x4) :
    Wq l w0 ((((x4.alloc (.cells #[.pointer (some ⟨I, 0, none⟩), .pointer (some ⟨J, 0, none⟩)] 42)).alloc (.cells #[.slice Ap l.length cp, .int .i64 (-1)] 47)).alloc (.cells #[.slice Ap l.length cp, .int .i64 (-1)] 47)).alloc (.cells #[.pointer (some ⟨X + 1, 0, none⟩), .pointer (some ⟨X + 1 + 1, 0, none⟩)] 45)) bs B Ap cp X (X + 1 + 1 + 1) (.cells #[.pointer (some ⟨I, 0, none⟩), .pointer (some ⟨J, 0, none⟩)] 42 (0, 0)) (.cells #[.pointer (some ⟨X + 1, 0, none⟩), .pointer (some ⟨X + 1 + 1, 0, none⟩)] 45 (0, 0)) I J (X + 1) (X + 1 + 1) (-1) (-1) (-1) (-1) := by
  subst hX
  have hIs := hI.lt
  have hJs := hJ.lt
  have hbz := hB.size
  have b1 := below_alloc (Below.refl x4.heap.size x4) (.cells #[.pointer (some ⟨I, 0, none⟩), .pointer (some ⟨J, 0, none⟩)] 42)
  have b2 := below_alloc b1 (.cells #[.slice Ap l.length cp, .int .i64 (-1)] 47)
  have b3 := below_alloc b2 (.cells #[.slice Ap l.length cp, .int .i64 (-1)] 47)
  have b4 := below_alloc b3 (.cells #[.pointer (some ⟨x4.heap.size + 1, 0, none⟩), .pointer (some ⟨x4.heap.size + 1 + 1, 0, none⟩)] 45)
  have hB4 := hB.trans (b4.mono hB.size)
  have n1 := blk_new x4 (.cells #[.pointer (some ⟨I, 0, none⟩), .pointer (some ⟨J, 0, none⟩)] 42)
  have n2 := blk_new (x4.alloc (.cells #[.pointer (some ⟨I, 0, none⟩), .pointer (some ⟨J, 0, none⟩)] 42)) (.cells #[.slice Ap l.length cp, .int .i64 (-1)] 47)
  have n3 := blk_new ((x4.alloc (.cells #[.pointer (some ⟨I, 0, none⟩), .pointer (some ⟨J, 0, none⟩)] 42)).alloc (.cells #[.slice Ap l.length cp, .int .i64 (-1)] 47)) (.cells #[.slice Ap l.length cp, .int .i64 (-1)] 47)
  have n4 := blk_new (((x4.alloc (.cells #[.pointer (some ⟨I, 0, none⟩), .pointer (some ⟨J, 0, none⟩)] 42)).alloc (.cells #[.slice Ap l.length cp, .int .i64 (-1)] 47)).alloc (.cells #[.slice Ap l.length cp, .int .i64 (-1)] 47)) (.cells #[.pointer (some ⟨x4.heap.size + 1, 0, none⟩), .pointer (some ⟨x4.heap.size + 1 + 1, 0, none⟩)] 45)
  simp only [World.size_alloc] at n2 n3 n4
  have hm : -1 ≤ (-1 : Int) := Int.le_refl _
  have hm1 : (-1 : Int) ≤ l.length := by omega
  refine ⟨blk_alloc (blk_alloc (blk_alloc n1 _) _) _, n4, hI.below b4, hJ.below b4, ⟨blk_alloc (blk_alloc n2 _) _, hC, by omega, hB4, hm, hm1, hcp⟩, ⟨blk_alloc n3 _, hC, by omega, hB4, hm, hm1, hcp⟩, Nat.le_trans hbs b4.size, ⟨by omega, by omega, by omega, by omega, by omega, by omega⟩, ⟨by omega, by omega, by omega, by omega, by omega, by omega, by omega, by omega⟩, hI0, hJ0⟩
theorem Wq.next {L : List S58} {w0 w wB : World} {bs B X Y : Nat} {Ap : Option Addr} {cp : Nat} {cX cY cM : Obj} {I J P Q M : Nat} {gi gj gp gq t : Int} {r : Bool} (hR : rightB (-1) 0 L = true) (h : Wq L w0 w bs B Ap cp X Y cX cY I J P Q gi gj gp gq) (hM : w.heap[M]? = some cM) (hne : M ≠ I) (hB : Below wB.heap.size wB w) (hI : wB.heap.size ≤ I) (ht : nextG L gi = t) (hr : decide (t < (L.length : Int)) = r) :
    Calls Try.prog 18 #[.pointer (some ⟨I, 0, none⟩)] w fun e w' => e = .returned (.bool r) ∧ Wq L w0 w' bs B Ap cp X Y cX cY I J P Q t gj gp gq ∧ w'.heap[M]? = some cM ∧ Below wB.heap.size wB w' := by
  refine (WNext_calls L hR I bs B gi w h.wi h.sz).mono ?_
  rw [ht, hr]
  rintro e w' ⟨h1, h2, h3⟩
  exact ⟨h1, h.stepI h3 h2, hold_ hM hne h3, hB.grown h3 hB.size (fun k e => by injection e with e; omega)⟩
theorem Wq.adv {L : List S58} {w0 w wB : World} {bs B X Y : Nat} {Ap : Option Addr} {cp : Nat} {cX cY cM : Obj} {I J P Q M : Nat} {gi gj gp gq t doc : Int} {r : Bool} (hR : rightB (-1) 0 L = true) (h : Wq L w0 w bs B Ap cp X Y cX cY I J P Q gi gj gp gq) (hM : w.heap[M]? = some cM) (hne : M ≠ I) (hB : Below wB.heap.size wB w) (hI : wB.heap.size ≤ I) (ht : advG L gi doc = t) (hr : decide (t < (L.length : Int)) = r) :
    Calls Try.prog 20 #[.pointer (some ⟨I, 0, none⟩), .int .i64 doc] w fun e w' => e = .returned (.bool r) ∧ Wq L w0 w' bs B Ap cp X Y cX cY I J P Q t gj gp gq ∧ w'.heap[M]? = some cM ∧ Below wB.heap.size wB w' := by
  refine (WAdv_calls L hR I bs B gi doc w h.wi h.sz).mono ?_
  rw [ht, hr]
  rintro e w' ⟨h1, h2, h3⟩
  exact ⟨h1, h.stepI h3 h2, hold_ hM hne h3, hB.grown h3 hB.size (fun k e => by injection e with e; omega)⟩
theorem Wq.rnext {L : List S58} {w0 w wB : World} {bs B X Y : Nat} {Ap : Option Addr} {cp : Nat} {cX cY cM : Obj} {I J P Q M : Nat} {gi gj gp gq t : Int} {r : Bool} (h : Wq L w0 w bs B Ap cp X Y cX cY I J P Q gi gj gp gq) (hM : w.heap[M]? = some cM) (hne : M ≠ P) (hB : Below wB.heap.size wB w) (hI : wB.heap.size ≤ P) (ht : nextG L gp = t) (hr : decide (t < (L.length : Int)) = r) :
    Calls Try.prog 19 #[.pointer (some ⟨P, 0, none⟩)] w fun e w' => e = .returned (.bool r) ∧ Wq L w0 w' bs B Ap cp X Y cX cY I J P Q gi gj t gq ∧ w'.heap[M]? = some cM ∧ Below wB.heap.size wB w' := by
  refine (RNext_calls w0 w P Ap cp L gp h.yp).mono ?_
  rw [ht, hr]
  rintro e w' ⟨h1, h2, h3⟩
  exact ⟨h1, h.stepP h3 h2, hold_ hM hne h3, hB.grown h3 hB.size (fun k e => by injection e with e; omega)⟩
theorem Wq.radv {L : List S58} {w0 w wB : World} {bs B X Y : Nat} {Ap : Option Addr} {cp : Nat} {cX cY cM : Obj} {I J P Q M : Nat} {gi gj gp gq t doc : Int} {r : Bool} (hR : rightB (-1) 0 L = true) (h : Wq L w0 w bs B Ap cp X Y cX cY I J P Q gi gj gp gq) (hM : w.heap[M]? = some cM) (hne : M ≠ P) (hB : Below wB.heap.size wB w) (hI : wB.heap.size ≤ P) (ht : advG L gp doc = t) (hr : decide (t < (L.length : Int)) = r) :
    Calls Try.prog 21 #[.pointer (some ⟨P, 0, none⟩), .int .i64 doc] w fun e w' => e = .returned (.bool r) ∧ Wq L w0 w' bs B Ap cp X Y cX cY I J P Q gi gj t gq ∧ w'.heap[M]? = some cM ∧ Below wB.heap.size wB w' := by
  refine (RAdv_calls w0 w P Ap cp L hR gp doc h.yp).mono ?_
  rw [ht, hr]
  rintro e w' ⟨h1, h2, h3⟩
  exact ⟨h1, h.stepP h3 h2, hold_ hM hne h3, hB.grown h3 hB.size (fun k e => by injection e with e; omega)⟩
set_option maxRecDepth 100000 in
set_option maxHeartbeats 4000000 in
theorem Walk_main (A A2 : Option Addr) (l : List S58) (c c2 n2 : Nat) (D : Nat → Int × Int × Int) (w : World) (h : Kd.C k58 w A l.length l) (hc : l.length ≤ c) (hM : Mvs w A2 n2 D) (hcM : n2 ≤ c2) (hp : ∀ p ∈ l, p.f1.length * 8 ≤ 140737488351232) (hl : l.length ≤ 200) (hd : n2 ≤ 1000) (hR : rightB (-1) 0 l = true) :
    Calls Try.prog 4 #[.slice A l.length c, .slice A2 n2 c2] w fun e w' => e = .returned (.bool true) ∧ Below w.heap.size w w' := by
  have HM := Aside0.mk hM
  have HR := Aside0.mk hR
  obtain ⟨F, hF⟩ : ∃ F, formOf l = F := ⟨_, rfl⟩
  have HPl : Aside0 (Calls Try.prog 12 #[.slice A l.length c] w fun e w' => ∃ A' c', e = .returned (.slice A' l.length c') ∧ l.length ≤ c' ∧ Kd.C k86 w' A' l.length (l.map to86) ∧ Below w.heap.size w w') := ⟨by
    have := plain_calls A l c w h hc (by omega)
    rw [List.length_map] at this
    exact this⟩
  have HRe : Aside0 (∀ W A1 c1, Kd.C k86 W A1 l.length (l.map to86) → l.length ≤ c1 → Calls Try.prog 11 #[.slice A1 l.length c1] W fun e w' => ∃ A' c', e = .returned (.tuple #[.slice A' F.length c', .int .i64 0]) ∧ F.length ≤ c' ∧ (Kd.int .u8).C w' A' F.length F ∧ Below W.heap.size W w') := ⟨fun W A1 c1 hC hc1 => by
    have := refB_calls A1 l c1 W (by rw [List.length_map]; exact hC) (by rw [List.length_map]; exact hc1) (by omega) (fun p hm => by have := hp p hm; omega)
    have e1 : (refOf l) = (formOf l, 0) := by unfold refOf; rw [if_pos hR]
    rw [e1, hF, List.length_map] at this
    exact this⟩
  have HOp : Aside0 (∀ W A1 c1, (Kd.int .u8).C W A1 F.length F → F.length ≤ c1 → Calls Try.prog 16 #[.slice A1 F.length c1] W fun e w' => ∃ B, e = .returned (.tuple #[.pointer (some ⟨B, 0, none⟩), .int .i64 0]) ∧ Lst w' B W.heap.size (blksOf l) ∧ Below W.heap.size W w') := ⟨fun W A1 c1 h1 h2 => by
    have := OpenL_calls l hR A1 c1 W (by rw [hF]; exact h1) (by rw [hF]; exact h2)
    rw [hF] at this
    exact this⟩
  clear h hM hR hF hp
  go_enter Try.func4, Try.ntmps4
  go_wp2_with (first
    | (go_at_call 17; ((with_reducible refine (WIter_calls l B _ _ (HLs.out.below HBi.out) HSZ1.out).mono ?_)); rintro e x4 ⟨rfl, hw, hb⟩; have HWJ := Aside0.mk hw; have HWI2 := Aside0.mk (HWI.out.below hb); have HB4 := Aside0.mk (HB3.out.trans (hb.mono HB3.out.size)); have HC4 := Aside0.mk (HC3.out.trans (hb.mono HC3.out.size)); have HSZ4 := Aside0.mk (Nat.le_trans HSZ1.out hb.size); have HIJ := Aside0.mk HWI.out.lt; have HJ0 := Aside0.mk HC3.out.size; clear hw hb)
    | (go_at_call 17; ((with_reducible refine (WIter_calls l B _ _ HLs.out HSZ0.out).mono ?_)); rintro e x3 ⟨rfl, hw, hb⟩; have HWI := Aside0.mk hw; have HBi := Aside0.mk hb; have HI0 := Aside0.mk HC2.out.size; have HSZ1 := Aside0.mk (Nat.le_trans HSZ0.out hb.size); have HB3 := Aside0.mk (HB2.out.trans (hb.mono HB2.out.size)); have HC3 := Aside0.mk (HC2.out.trans (hb.mono HC2.out.size)); clear hw hb)
    | (go_at_call 16; ((with_reducible refine (HOp.out _ Af cf HCf.out hcf).mono ?_)); rintro e x2 ⟨B, rfl, hl2, hb⟩; have HLs := Aside0.mk hl2; have HSZ0 := Aside0.mk hb.size; have HB2 := Aside0.mk (HB1.out.trans (hb.mono HB1.out.size)); have HC2 := Aside0.mk (HC1.out.trans (hb.mono HC1.out.size)); clear hl2 hb)
    | (go_at_call 11; ((with_reducible refine (HRe.out _ Ap cp HCp.out hcp).mono ?_)); rintro e x1 ⟨Af, cf, rfl, hcf, hCf, hb⟩; have HCf := Aside0.mk hCf; have HB1 := Aside0.mk (HB0.out.trans (hb.mono HB0.out.size)); have HC1 := Aside0.mk hb; clear hCf hb)
    | (go_at_call 12; ((with_reducible refine (HPl.out).mono ?_)); rintro e x0 ⟨Ap, cp, rfl, hcp, hCp, hb⟩; have HCp := Aside0.mk hCp; have HB0 := Aside0.mk hb; clear hCp hb))
  have HS0 := Aside0.mk (Wq_start rfl HWI2.out HWJ.out HIJ.out HI0.out HJ0.out HCp.out hcp HSZ4.out HC4.out)
  have HBs := Aside0.mk (below_alloc (below_alloc (below_alloc (below_alloc HB4.out (.cells #[.pointer (some ⟨x2.heap.size, 0, none⟩), .pointer (some ⟨x3.heap.size, 0, none⟩)] 42)) (.cells #[.slice Ap l.length cp, .int .i64 (-1)] 47)) (.cells #[.slice Ap l.length cp, .int .i64 (-1)] 47)) (.cells #[.pointer (some ⟨x4.heap.size + 1, 0, none⟩), .pointer (some ⟨x4.heap.size + 1 + 1, 0, none⟩)] 45))
  have HX0 := Aside0.mk HB4.out.size
  have HW0 := Aside0.mk HB0.out.size
  obtain ⟨I, hI⟩ : ∃ I, x2.heap.size = I := ⟨_, rfl⟩
  obtain ⟨J, hJ⟩ : ∃ J, x3.heap.size = J := ⟨_, rfl⟩
  obtain ⟨bs, hbs⟩ : ∃ bs, x1.heap.size = bs := ⟨_, rfl⟩
  obtain ⟨X, hX⟩ : ∃ X, x4.heap.size = X := ⟨_, rfl⟩
  rw [hI, hJ, hX] at HS0 HBs
  rw [hbs] at HS0
  rw [hX] at HX0
  rw [hI, hJ, hX]
  clear HPl HRe HOp HCp HCf HB0 HB1 HC1 HLs HSZ0 HB2 HC2 HWI HBi HI0 HSZ1 HB3 HC3 HWJ HWI2 HB4 HC4 HSZ4 HIJ HJ0 hI hJ hbs hX hcf
  go_loopg [12] n2 (fun kq v12 w' => ∃ (i : Nat) (gi gj : Int), v12 = .int .i64 (i : Int) ∧ Aside0 (i ≤ n2) ∧ Aside0 (Wq l x0 w' bs B Ap cp X (X + 1 + 1 + 1) (.cells #[.pointer (some ⟨I, 0, none⟩), .pointer (some ⟨J, 0, none⟩)] 42 (0, 0)) (.cells #[.pointer (some ⟨X + 1, 0, none⟩), .pointer (some ⟨X + 1 + 1, 0, none⟩)] 45 (0, 0)) I J (X + 1) (X + 1 + 1) gi gj gi gj) ∧ Aside0 (Below w.heap.size w w') ∧ Aside0 (n2 - i ≤ kq))
  case atStart => exact ⟨0, -1, -1, rfl, ⟨Nat.zero_le _⟩, HS0, HBs, ⟨Nat.le_refl _⟩⟩
  case round =>
    clear HS0 HBs
    obtain ⟨i, gi, gj, rfl, hi, HW, HB, HK⟩ := hrel
    have hii := hi.out
    by_cases hlt : i < n2
    · obtain ⟨ax, rfl, hz0, hz1, hz2⟩ := HM.out.get i hlt
      obtain ⟨d0, d1, d2, hD⟩ : ∃ d0 d1 d2, D i = (d0, d1, d2) := ⟨_, _, _, rfl⟩
      rw [hD] at hz0 hz1 hz2
      replace hz0 := pw_cell_below HB.out hz0
      replace hz1 := pw_cell_below HB.out hz1
      replace hz2 := pw_cell_below HB.out hz2
      dsimp only at hz0 hz1 hz2
      obtain ⟨b, I', J', P', Q', g, g2, hb2, hbits, hX, hY, HW', HBack⟩ := HW.out.bit d0
      have HWs := Aside0.mk HW'
      have HBk := Aside0.mk HBack
      have hXm : (wr.alloc (.cells #[.int .i64 d0, .int .i64 d1, .int .i64 d2] 50)).cell? ⟨X, b, none⟩ = some (.pointer (some ⟨I', 0, none⟩)) := pw_cell_below (below_alloc (Below.refl _ _) _) hX
      have hYm : (wr.alloc (.cells #[.int .i64 d0, .int .i64 d1, .int .i64 d2] 50)).cell? ⟨X + 1 + 1 + 1, b, none⟩ = some (.pointer (some ⟨P', 0, none⟩)) := pw_cell_below (below_alloc (Below.refl _ _) _) hY
      have HWm := Aside0.mk (HW'.below (below_alloc (Below.refl wr.heap.size wr) (.cells #[.int .i64 d0, .int .i64 d1, .int .i64 d2] 50)))
      have HMm := Aside0.mk (blk_new wr (.cells #[.int .i64 d0, .int .i64 d1, .int .i64 d2] 50))
      have HBm := Aside0.mk ((HB.out.trans ((below_alloc (Below.refl wr.heap.size wr) (.cells #[.int .i64 d0, .int .i64 d1, .int .i64 d2] 50)).mono HB.out.size)))
      have hMI : wr.heap.size ≠ I' := by have := HW'.wi.lt; omega
      have hMP : wr.heap.size ≠ P' := by have := HW'.yp.lt; omega
      have hI0 : w.heap.size ≤ I' := Nat.le_trans HW0.out HW'.ge.1
      have hP0 : w.heap.size ≤ P' := Nat.le_trans HW0.out HW'.yp.ge
      clear HW' HBack hD hX hY
      by_cases hd1e : d1 = 0
      · subst hd1e
        obtain ⟨t, ht⟩ : ∃ t, nextG l g = t := ⟨_, rfl⟩
        have ht01 := nextG_le l g HWs.out.wi.g0 HWs.out.wi.g1
        rw [ht] at ht01
        have HT := Aside0.mk ht
        clear ht
        obtain ⟨r, hr⟩ : ∃ r, decide (t < (l.length : Int)) = r := ⟨_, rfl⟩
        have HRr := Aside0.mk hr
        clear hr
        obtain ⟨dt, hdt0⟩ : ∃ dt, docAt l t = dt := ⟨_, rfl⟩
        obtain ⟨ps, hps0⟩ : ∃ ps, posAt l t = ps := ⟨_, rfl⟩
        have hdt := Aside0.mk hdt0
        have hps := Aside0.mk hps0
        have hpl : Aside0 (((posAt l t).length : Int) = (ps.length : Int)) := ⟨by rw [hps0]⟩
        clear hdt0 hps0
        go_wp2_with (first
          | (go_at_call 27; ((with_reducible refine (Ints_same Ax Ay cx cy ps _ (Kd.C_below HCx.out (H34.out.trans (H47.out.mono H34.out.size))) hcx (Kd.C_below HCy.out H47.out) hcy).mono ?_)); rintro e y8 ⟨rfl, hb⟩; have H28 := Aside0.mk (H27.out.trans (hb.mono H27.out.size)); have HL8 := Aside0.mk (Lx.below (Lx.below (Lx.below HLx.out H34.out) H47.out) hb); clear hb)
          | (go_at_call 26; ((with_reducible refine (WFreq_calls l _ bs B t _ (HW2.out.wi.below H26.out)).mono ?_)); rw [hpl.out]; rintro e y7 ⟨rfl, n7, hb7⟩; have hb : Below y6.heap.size y6 y7 := (by subst hb7; exact pw_below_drewN (Below.refl _ _) n7); have H27 := Aside0.mk (H26.out.trans (hb.mono H26.out.size)); have H47 := Aside0.mk (H46.out.trans (hb.mono H46.out.size)); clear hb hb7)
          | (go_at_call 25; ((with_reducible refine (RDoc_calls x0 _ _ Ap cp l t (HW2.out.yp.below H25.out)).mono ?_)); rw [hdt.out]; rintro e y6 ⟨rfl, hb⟩; have H26 := Aside0.mk (H25.out.trans (hb.mono H25.out.size)); have H46 := Aside0.mk (H45.out.trans (hb.mono H45.out.size)); clear hb)
          | (go_at_call 24; ((with_reducible refine (WDoc_calls l _ bs B t _ (HW2.out.wi.below H24.out)).mono ?_)); rw [hdt.out]; rintro e y5 ⟨rfl, n5, hb5⟩; have hb : Below y4.heap.size y4 y5 := (by subst hb5; exact pw_below_drewN (Below.refl _ _) n5); have H25 := Aside0.mk (H24.out.trans (hb.mono H24.out.size)); have H45 := Aside0.mk hb; clear hb hb5)
          | (go_at_call 23; ((with_reducible refine (RPos_calls x0 _ _ Ap cp l t (HW2.out.yp.below H23.out)).mono ?_)); rw [hps.out]; rintro e y4 ⟨Ay, cy, rfl, hcy, hCy, hb⟩; have HCy := Aside0.mk hCy; have H24 := Aside0.mk (H23.out.trans (hb.mono H23.out.size)); have H34 := Aside0.mk hb; clear hCy hb)
          | (go_at_call 22; ((with_reducible refine (WPos_calls l HR.out _ bs B t _ HW2.out.wi).mono ?_)); rw [hps.out]; rintro e y3 ⟨Ax, cx, rfl, hcx, hLx, hb⟩; have HLx := Aside0.mk hLx; have HCx := Aside0.mk (Lx.reads' hLx).2.2; have H23 := Aside0.mk hb; clear hLx hb)
          | (go_at_call 19; ((with_reducible refine (Wq.rnext HWa.out HMa.out hMP HBa.out hP0 HT.out HRr.out).mono ?_)); rintro e y2 ⟨rfl, h1, h2, h3⟩; have HW2 := Aside0.mk h1; have HB2 := Aside0.mk h3; clear h1 h2 h3)
          | (go_at_call 18; ((with_reducible refine (Wq.next HR.out HWm.out HMm.out hMI HBm.out hI0 HT.out HRr.out).mono ?_)); rintro e y1 ⟨rfl, h1, h2, h3⟩; have HWa := Aside0.mk h1; have HMa := Aside0.mk h2; have HBa := Aside0.mk h3; have hm0 := blk_cell h2 0; have hm1 := blk_cell h2 1; have hm2 : y1.cell? ⟨wr.heap.size, 2, none⟩ = some (.int .i64 d2) := blk_cell h2 2; clear h1 h2 h3))
        have hml := posAt_len l HR.out t
        rw [hps.out] at hml
        clear HWm HMm HBm HWa HMa HBa HLx HCx H23 HCy H24 H34 H25 H45 H26 H46 H27 H47 hm0 hm1 hm2 hXm hYm hpl hdt hps
        obtain ⟨m, hm⟩ : ∃ m, ps.length = m := ⟨_, rfl⟩
        have HM2 := Aside0.mk hm
        rw [hm] at hml hcx hcy HL8 ⊢
        clear hm
        go_loopg [20] m (fun kq v20 w' => ∃ (k : Nat) (xs : List Int), v20 = .int .i64 (k : Int) ∧ xs.length = m ∧ Aside0 (k ≤ m) ∧ Aside0 (Lx .i64 3 w' y2.heap.size (.slice Ax m cx) xs) ∧ Aside0 (Below y2.heap.size y2 w') ∧ Aside0 (m - k ≤ kq))
        case atStart => exact ⟨0, ps, rfl, HM2.out, ⟨Nat.zero_le _⟩, HL8, H28, ⟨Nat.le_refl _⟩⟩
        case round =>
          clear HL8 H28
          obtain ⟨k, xs, rfl, hxl, hk, HL, HZ, HKK⟩ := hrel
          have hkk := hk.out
          by_cases hkl : k < m
          · obtain ⟨g9, rfl, hcell⟩ := Rdv.get HL.out.rdv k (by omega)
            obtain ⟨cg, hcg⟩ := Lax.typed HL.out g9 rfl
            have hcell2 : wr.cell? ((⟨g9, 0, none⟩ : Addr).add k) = some (.int .i64 (xs.getD k 0)) := by rw [add_plain]; exact hcell
            have hfr := blk_frozen hcg k
            have hgb := Lax.base_le HL.out g9 rfl
            clear hcg
            go_wp2
            go_roundg (m - (k + 1))
            case measure => have := HKK.out; omega
            case rel => exact ⟨k + 1, xs.set k (-7), by first | rfl | (simp; done), by rw [List.length_set]; exact hxl, ⟨hkl⟩, ⟨HL.out.store k (-7)⟩, ⟨HZ.out.grown (grownBy_set _ g9 k _) HZ.out.size (fun k e => by injection e with e; omega)⟩, ⟨Nat.le_refl _⟩⟩
          · have hkm : ¬ (k : Int) < (m : Int) := by omega
            go_wp2
            go_roundg (n2 - (i + 1))
            case measure => have := HK.out; omega
            case rel =>
              obtain ⟨gi', gj', hW⟩ := HBk.out _ t (HW2.out.below HZ.out)
              exact ⟨i + 1, gi', gj', by first | rfl | (simp; done), ⟨hlt⟩, ⟨hW⟩, ⟨HB2.out.trans (HZ.out.mono HB2.out.size)⟩, ⟨Nat.le_refl _⟩⟩
      · obtain ⟨t, ht⟩ : ∃ t, advG l g d2 = t := ⟨_, rfl⟩
        have ht01 := advG_le l g d2 HWs.out.wi.g1
        rw [ht] at ht01
        have HT := Aside0.mk ht
        clear ht
        obtain ⟨r, hr⟩ : ∃ r, decide (t < (l.length : Int)) = r := ⟨_, rfl⟩
        have HRr := Aside0.mk hr
        clear hr
        obtain ⟨dt, hdt0⟩ : ∃ dt, docAt l t = dt := ⟨_, rfl⟩
        obtain ⟨ps, hps0⟩ : ∃ ps, posAt l t = ps := ⟨_, rfl⟩
        have hdt := Aside0.mk hdt0
        have hps := Aside0.mk hps0
        have hpl : Aside0 (((posAt l t).length : Int) = (ps.length : Int)) := ⟨by rw [hps0]⟩
        clear hdt0 hps0
        go_wp2_with (first
          | (go_at_call 27; ((with_reducible refine (Ints_same Ax Ay cx cy ps _ (Kd.C_below HCx.out (H34.out.trans (H47.out.mono H34.out.size))) hcx (Kd.C_below HCy.out H47.out) hcy).mono ?_)); rintro e y8 ⟨rfl, hb⟩; have H28 := Aside0.mk (H27.out.trans (hb.mono H27.out.size)); have HL8 := Aside0.mk (Lx.below (Lx.below (Lx.below HLx.out H34.out) H47.out) hb); clear hb)
          | (go_at_call 26; ((with_reducible refine (WFreq_calls l _ bs B t _ (HW2.out.wi.below H26.out)).mono ?_)); rw [hpl.out]; rintro e y7 ⟨rfl, n7, hb7⟩; have hb : Below y6.heap.size y6 y7 := (by subst hb7; exact pw_below_drewN (Below.refl _ _) n7); have H27 := Aside0.mk (H26.out.trans (hb.mono H26.out.size)); have H47 := Aside0.mk (H46.out.trans (hb.mono H46.out.size)); clear hb hb7)
          | (go_at_call 25; ((with_reducible refine (RDoc_calls x0 _ _ Ap cp l t (HW2.out.yp.below H25.out)).mono ?_)); rw [hdt.out]; rintro e y6 ⟨rfl, hb⟩; have H26 := Aside0.mk (H25.out.trans (hb.mono H25.out.size)); have H46 := Aside0.mk (H45.out.trans (hb.mono H45.out.size)); clear hb)
          | (go_at_call 24; ((with_reducible refine (WDoc_calls l _ bs B t _ (HW2.out.wi.below H24.out)).mono ?_)); rw [hdt.out]; rintro e y5 ⟨rfl, n5, hb5⟩; have hb : Below y4.heap.size y4 y5 := (by subst hb5; exact pw_below_drewN (Below.refl _ _) n5); have H25 := Aside0.mk (H24.out.trans (hb.mono H24.out.size)); have H45 := Aside0.mk hb; clear hb hb5)
          | (go_at_call 23; ((with_reducible refine (RPos_calls x0 _ _ Ap cp l t (HW2.out.yp.below H23.out)).mono ?_)); rw [hps.out]; rintro e y4 ⟨Ay, cy, rfl, hcy, hCy, hb⟩; have HCy := Aside0.mk hCy; have H24 := Aside0.mk (H23.out.trans (hb.mono H23.out.size)); have H34 := Aside0.mk hb; clear hCy hb)
          | (go_at_call 22; ((with_reducible refine (WPos_calls l HR.out _ bs B t _ HW2.out.wi).mono ?_)); rw [hps.out]; rintro e y3 ⟨Ax, cx, rfl, hcx, hLx, hb⟩; have HLx := Aside0.mk hLx; have HCx := Aside0.mk (Lx.reads' hLx).2.2; have H23 := Aside0.mk hb; clear hLx hb)
          | (go_at_call 21; ((with_reducible refine (Wq.radv HR.out HWa.out HMa.out hMP HBa.out hP0 HT.out HRr.out).mono ?_)); rintro e y2 ⟨rfl, h1, h2, h3⟩; have HW2 := Aside0.mk h1; have HB2 := Aside0.mk h3; clear h1 h2 h3)
          | (go_at_call 20; ((with_reducible refine (Wq.adv HR.out HWm.out HMm.out hMI HBm.out hI0 HT.out HRr.out).mono ?_)); rintro e y1 ⟨rfl, h1, h2, h3⟩; have HWa := Aside0.mk h1; have HMa := Aside0.mk h2; have HBa := Aside0.mk h3; have hm0 := blk_cell h2 0; have hm1 := blk_cell h2 1; have hm2 : y1.cell? ⟨wr.heap.size, 2, none⟩ = some (.int .i64 d2) := blk_cell h2 2; clear h1 h2 h3))
        have hml := posAt_len l HR.out t
        rw [hps.out] at hml
        clear HWm HMm HBm HWa HMa HBa HLx HCx H23 HCy H24 H34 H25 H45 H26 H46 H27 H47 hm0 hm1 hm2 hXm hYm hpl hdt hps
        obtain ⟨m, hm⟩ : ∃ m, ps.length = m := ⟨_, rfl⟩
        have HM2 := Aside0.mk hm
        rw [hm] at hml hcx hcy HL8 ⊢
        clear hm
        go_loopg [20] m (fun kq v20 w' => ∃ (k : Nat) (xs : List Int), v20 = .int .i64 (k : Int) ∧ xs.length = m ∧ Aside0 (k ≤ m) ∧ Aside0 (Lx .i64 3 w' y2.heap.size (.slice Ax m cx) xs) ∧ Aside0 (Below y2.heap.size y2 w') ∧ Aside0 (m - k ≤ kq))
        case atStart => exact ⟨0, ps, rfl, HM2.out, ⟨Nat.zero_le _⟩, HL8, H28, ⟨Nat.le_refl _⟩⟩
        case round =>
          clear HL8 H28
          obtain ⟨k, xs, rfl, hxl, hk, HL, HZ, HKK⟩ := hrel
          have hkk := hk.out
          by_cases hkl : k < m
          · obtain ⟨g9, rfl, hcell⟩ := Rdv.get HL.out.rdv k (by omega)
            obtain ⟨cg, hcg⟩ := Lax.typed HL.out g9 rfl
            have hcell2 : wr.cell? ((⟨g9, 0, none⟩ : Addr).add k) = some (.int .i64 (xs.getD k 0)) := by rw [add_plain]; exact hcell
            have hfr := blk_frozen hcg k
            have hgb := Lax.base_le HL.out g9 rfl
            clear hcg
            go_wp2
            go_roundg (m - (k + 1))
            case measure => have := HKK.out; omega
            case rel => exact ⟨k + 1, xs.set k (-7), by first | rfl | (simp; done), by rw [List.length_set]; exact hxl, ⟨hkl⟩, ⟨HL.out.store k (-7)⟩, ⟨HZ.out.grown (grownBy_set _ g9 k _) HZ.out.size (fun k e => by injection e with e; omega)⟩, ⟨Nat.le_refl _⟩⟩
          · have hkm : ¬ (k : Int) < (m : Int) := by omega
            go_wp2
            go_roundg (n2 - (i + 1))
            case measure => have := HK.out; omega
            case rel =>
              obtain ⟨gi', gj', hW⟩ := HBk.out _ t (HW2.out.below HZ.out)
              exact ⟨i + 1, gi', gj', by first | rfl | (simp; done), ⟨hlt⟩, ⟨hW⟩, ⟨HB2.out.trans (HZ.out.mono HB2.out.size)⟩, ⟨Nat.le_refl _⟩⟩
    · have hin : i = n2 := by omega
      subst hin
      have hx0 : wr.cell? ⟨X, 0, none⟩ = some (.pointer (some ⟨I, 0, none⟩)) := blk_cell HW.out.hx 0
      have hx1 : wr.cell? ⟨X, 1, none⟩ = some (.pointer (some ⟨J, 0, none⟩)) := blk_cell HW.out.hx 1
      have hx2 : wr.cell? ⟨X + 1 + 1 + 1, 0, none⟩ = some (.pointer (some ⟨X + 1, 0, none⟩)) := blk_cell HW.out.hy 0
      have hx3 : wr.cell? ⟨X + 1 + 1 + 1, 1, none⟩ = some (.pointer (some ⟨X + 1 + 1, 0, none⟩)) := blk_cell HW.out.hy 1
      have hw0 : wr.drew.cell? ⟨X, 0, none⟩ = some (.pointer (some ⟨I, 0, none⟩)) := hx0
      have hw1 : wr.drew.cell? ⟨X, 1, none⟩ = some (.pointer (some ⟨J, 0, none⟩)) := hx1
      have hw2 : wr.drew.cell? ⟨X + 1 + 1 + 1, 0, none⟩ = some (.pointer (some ⟨X + 1, 0, none⟩)) := hx2
      have hw3 : wr.drew.cell? ⟨X + 1 + 1 + 1, 1, none⟩ = some (.pointer (some ⟨X + 1 + 1, 0, none⟩)) := hx3
      obtain ⟨da, hda⟩ : ∃ da, docAt l gi = da := ⟨_, rfl⟩
      obtain ⟨db, hdb⟩ : ∃ db, docAt l gj = db := ⟨_, rfl⟩
      have C1 := Aside0.mk (HW.out.wi.doc hda)
      have C3 := Aside0.mk (HW.out.wj.doc hdb)
      have C2 : Aside0 (∀ W, Below wr.heap.size wr W → Calls Try.prog 25 #[.pointer (some ⟨X + 1, 0, none⟩)] W fun e w' => e = .returned (.int .i64 da) ∧ Below W.heap.size W w') := ⟨fun W hW => by
        have := RDoc_calls x0 W (X + 1) Ap cp l gi (HW.out.yp.below hW)
        rw [hda] at this
        exact this⟩
      have C4 : Aside0 (∀ W, Below wr.heap.size wr W → Calls Try.prog 25 #[.pointer (some ⟨X + 1 + 1, 0, none⟩)] W fun e w' => e = .returned (.int .i64 db) ∧ Below W.heap.size W w') := ⟨fun W hW => by
        have := RDoc_calls x0 W (X + 1 + 1) Ap cp l gj (HW.out.yq.below hW)
        rw [hdb] at this
        exact this⟩
      have HZ0 : Aside0 (Below wr.heap.size wr wr.drew) := ⟨Below.drew (Below.refl _ _)⟩
      have HXa := Aside0.mk hx0
      have HXb := Aside0.mk hx1
      have HXc := Aside0.mk hx2
      have HXd := Aside0.mk hx3
      clear hda hdb hx0 hx1 hx2 hx3
      go_wp2
      go_region_held3 (fun w' => w'.cell? ⟨X, 0, none⟩ = some (.pointer (some ⟨I, 0, none⟩)) ∧ w'.cell? ⟨X, 1, none⟩ = some (.pointer (some ⟨J, 0, none⟩)) ∧ w'.cell? ⟨X + 1 + 1 + 1, 0, none⟩ = some (.pointer (some ⟨X + 1, 0, none⟩)) ∧ w'.cell? ⟨X + 1 + 1 + 1, 1, none⟩ = some (.pointer (some ⟨X + 1 + 1, 0, none⟩))) (first | with_reducible exact ⟨hw0, hw1, hw2, hw3⟩ | with_reducible exact ⟨h10, h11, h12, h13⟩ | with_reducible exact ⟨h20, h21, h22, h23⟩ | with_reducible exact ⟨h30, h31, h32, h33⟩ | with_reducible exact ⟨h40, h41, h42, h43⟩ | with_reducible exact ⟨h50, h51, h52, h53⟩) (first | (go_at_call 24; ((with_reducible refine (C1.out _ HZ0.out).mono ?_)); rintro e z1 ⟨rfl, hb⟩; have HZ1 := Aside0.mk (HZ0.out.trans (hb.mono HZ0.out.size)); have h10 : z1.cell? ⟨X, 0, none⟩ = some (.pointer (some ⟨I, 0, none⟩)) := pw_cell_below HZ1.out HXa.out; have h11 : z1.cell? ⟨X, 1, none⟩ = some (.pointer (some ⟨J, 0, none⟩)) := pw_cell_below HZ1.out HXb.out; have h12 : z1.cell? ⟨X + 1 + 1 + 1, 0, none⟩ = some (.pointer (some ⟨X + 1, 0, none⟩)) := pw_cell_below HZ1.out HXc.out; have h13 : z1.cell? ⟨X + 1 + 1 + 1, 1, none⟩ = some (.pointer (some ⟨X + 1 + 1, 0, none⟩)) := pw_cell_below HZ1.out HXd.out; clear hb) | (go_at_call 25; ((with_reducible refine (C2.out _ HZ1.out).mono ?_)); rintro e z2 ⟨rfl, hb⟩; have HZ2 := Aside0.mk (HZ1.out.trans (hb.mono HZ1.out.size)); have h20 : z2.cell? ⟨X, 0, none⟩ = some (.pointer (some ⟨I, 0, none⟩)) := pw_cell_below HZ2.out HXa.out; have h21 : z2.cell? ⟨X, 1, none⟩ = some (.pointer (some ⟨J, 0, none⟩)) := pw_cell_below HZ2.out HXb.out; have h22 : z2.cell? ⟨X + 1 + 1 + 1, 0, none⟩ = some (.pointer (some ⟨X + 1, 0, none⟩)) := pw_cell_below HZ2.out HXc.out; have h23 : z2.cell? ⟨X + 1 + 1 + 1, 1, none⟩ = some (.pointer (some ⟨X + 1 + 1, 0, none⟩)) := pw_cell_below HZ2.out HXd.out; clear hb) | (go_at_call 24; ((with_reducible refine (C3.out _ HZ2.out).mono ?_)); rintro e z3 ⟨rfl, hb⟩; have HZ3 := Aside0.mk (HZ2.out.trans (hb.mono HZ2.out.size)); have h30 : z3.cell? ⟨X, 0, none⟩ = some (.pointer (some ⟨I, 0, none⟩)) := pw_cell_below HZ3.out HXa.out; have h31 : z3.cell? ⟨X, 1, none⟩ = some (.pointer (some ⟨J, 0, none⟩)) := pw_cell_below HZ3.out HXb.out; have h32 : z3.cell? ⟨X + 1 + 1 + 1, 0, none⟩ = some (.pointer (some ⟨X + 1, 0, none⟩)) := pw_cell_below HZ3.out HXc.out; have h33 : z3.cell? ⟨X + 1 + 1 + 1, 1, none⟩ = some (.pointer (some ⟨X + 1 + 1, 0, none⟩)) := pw_cell_below HZ3.out HXd.out; clear hb) | (go_at_call 25; ((with_reducible refine (C4.out _ HZ3.out).mono ?_)); rintro e z4 ⟨rfl, hb⟩; have HZ4 := Aside0.mk (HZ3.out.trans (hb.mono HZ3.out.size)); have h40 : z4.cell? ⟨X, 0, none⟩ = some (.pointer (some ⟨I, 0, none⟩)) := pw_cell_below HZ4.out HXa.out; have h41 : z4.cell? ⟨X, 1, none⟩ = some (.pointer (some ⟨J, 0, none⟩)) := pw_cell_below HZ4.out HXb.out; have h42 : z4.cell? ⟨X + 1 + 1 + 1, 0, none⟩ = some (.pointer (some ⟨X + 1, 0, none⟩)) := pw_cell_below HZ4.out HXc.out; have h43 : z4.cell? ⟨X + 1 + 1 + 1, 1, none⟩ = some (.pointer (some ⟨X + 1 + 1, 0, none⟩)) := pw_cell_below HZ4.out HXd.out; clear hb) | (go_at_call 8; ((with_reducible refine (awake_calls _).mono ?_)); rintro e z5 ⟨rfl, hb⟩; have HZ5 := Aside0.mk (HZ4.out.trans (hb.mono HZ4.out.size)); have h50 : z5.cell? ⟨X, 0, none⟩ = some (.pointer (some ⟨I, 0, none⟩)) := pw_cell_below HZ5.out HXa.out; have h51 : z5.cell? ⟨X, 1, none⟩ = some (.pointer (some ⟨J, 0, none⟩)) := pw_cell_below HZ5.out HXb.out; have h52 : z5.cell? ⟨X + 1 + 1 + 1, 0, none⟩ = some (.pointer (some ⟨X + 1, 0, none⟩)) := pw_cell_below HZ5.out HXc.out; have h53 : z5.cell? ⟨X + 1 + 1 + 1, 1, none⟩ = some (.pointer (some ⟨X + 1 + 1, 0, none⟩)) := pw_cell_below HZ5.out HXd.out; clear hb))
      go_wp2
      go_ret
      exact ⟨rfl, HB.out.trans (HZ5.out.mono HB.out.size)⟩
end P
end Go.Proofs.Ytimlgpfcgklddaa
