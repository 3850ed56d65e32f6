/-
Texts of this seat, laid together: G4, R8.
-/
import Derived.Test.YtimlgpfcgklddaaXF12
import Derived.Test.YtimlgpfcgklddaaXR7
import Derived.Test.YtimlgpfcgklddaaXG3
/-
The law PostingsGoOn: it answers true for all posts and all places.
-/
namespace Go.Proofs.Ytimlgpfcgklddaa.P
open Go.RowKit Go.Shelf Go.Proofs.YtimlgpfcgklddaaW.PrintWords Go.Proofs.YtimlgpfcgklddaaW.PrintLast Go.Proofs.YtimlgpfcgklddaaW.PrintMore
set_option linter.unusedVariables false
set_option linter.unusedSimpArgs false
theorem nextG_lt {L : List S58} {h : Int} (hn : nextG L h < L.length) : nextG L h = h + 1 := by
  unfold nextG at hn ⊢
  split
  · rfl
  · rename_i h1; rw [if_neg h1] at hn; omega
theorem nextG_lt2 {L : List S58} {h : Int} (hn : nextG L h < L.length) : h < L.length := by
  unfold nextG at hn
  split at hn <;> omega
theorem nextG_end {L : List S58} {h : Int} (hn : ¬ nextG L h < L.length) (h1 : h ≤ L.length) : nextG L h = L.length := by
  unfold nextG at hn ⊢
  split
  · rename_i h2; rw [if_pos h2] at hn; omega
  · omega
theorem nextG_n {L : List S58} {n : Nat} (h : n ≤ L.length) : nextG L ((n : Int) - 1) = n := by
  unfold nextG
  rw [if_pos (by omega)]
  omega
theorem docAt_n {L : List S58} {n : Nat} (h : n < L.length) {p : S58} (hp : rd_T58 L (n : Int) = p) : docAt L (n : Int) = p.f0 := by
  unfold docAt
  rw [if_neg (by omega), if_pos (by omega), ← hp]
  rfl
theorem posAt_n {L : List S58} {n : Nat} (h : n < L.length) {p : S58} (hp : rd_T58 L (n : Int) = p) : ((posAt L (n : Int)).length : Int) = (p.f1.length : Int) := by
  unfold posAt
  rw [if_neg (by omega), if_pos (by omega), ← hp]
  rfl
set_option maxRecDepth 100000 in
set_option maxHeartbeats 4000000 in
theorem GoOn_main (A A2 : Option Addr) (l : List S58) (c c2 : Nat) (D : List Int) (w : World) (h : Kd.C k58 w A l.length l) (hc : l.length ≤ c) (hD : (Kd.int .i64).C w A2 D.length D) (hcD : D.length ≤ c2) (hp : ∀ p ∈ l, p.f1.length * 8 ≤ 140737488351232) (hl : l.length ≤ 200) (hd : D.length ≤ 200) (hR : rightB (-1) 0 l = true) :
    Calls Try.prog 5 #[.slice A l.length c, .slice A2 D.length c2] w fun e w' => e = .returned (.bool true) ∧ Below w.heap.size w w' := by
  have H := Aside0.mk h
  have HD := Aside0.mk hD
  have HR := Aside0.mk hR
  obtain ⟨F, hF⟩ : ∃ F, formOf l = F := ⟨_, rfl⟩
  have HBu : Aside0 (∀ W, Below w.heap.size w W → Calls Try.prog 10 #[.slice A l.length c] W fun e w' => ∃ A' c', e = .returned (.tuple #[.slice A' F.length c', .int .i64 0]) ∧ F.length ≤ c' ∧ (Kd.int .u8).C w' A' F.length F ∧ Below W.heap.size W w') := ⟨fun W hW => by
    refine (Build_calls A l c W (Kd.C_below h hW) hc 17592186044416 (fun p hm => by have := hp p hm; omega) (by decide) (by omega)).mono ?_
    rw [hR, if_pos rfl, if_pos rfl, hF]
    rintro e w' ⟨v, rfl, h1, _, h2⟩
    obtain ⟨A', c', rfl, hc', _⟩ := h1.reads
    exact ⟨A', c', rfl, hc', (Lx.reads' h1).2.2, h2⟩⟩
  have HOp : Aside0 (∀ W A1 c1, (Kd.int .u8).C W A1 F.length F → F.length ≤ c1 → Calls Try.prog 16 #[.slice A1 F.length c1] W fun e w' => ∃ B, e = .returned (.tuple #[.pointer (some ⟨B, 0, none⟩), .int .i64 0]) ∧ Lst w' B W.heap.size (blksOf l) ∧ Below W.heap.size W w') := ⟨fun W A1 c1 h1 h2 => by
    have := OpenL_calls l hR A1 c1 W (by rw [hF]; exact h1) (by rw [hF]; exact h2)
    rw [hF] at this
    exact this⟩
  clear h hD hR hF hp
  go_enter Try.func5, Try.ntmps5
  go_wp2_with (first
    | (go_at_call 17; ((with_reducible refine (WIter_calls l B _ _ (HLs.out.below HBj.out) HSZ.out).mono ?_)); rintro e x4 ⟨rfl, hw, hb⟩; have HWJ := Aside0.mk hw; have HWI2 := Aside0.mk (HWI.out.below hb); have HIJ := Aside0.mk HWI.out.lt; have HSZ2 := Aside0.mk (Nat.le_trans HSZ.out hb.size); have HLs2 := Aside0.mk (HLs.out.below (HBj.out.trans (hb.mono HBj.out.size))); have HB4 := Aside0.mk (HB3.out.trans (hb.mono HB3.out.size)); have HJ0 := Aside0.mk HB3.out.size; clear hw hb)
    | (go_at_call 17; ((with_reducible refine (WIter_calls l B _ _ HLs.out HSZ0.out).mono ?_)); rintro e x3 ⟨rfl, hw, hb⟩; have HWI := Aside0.mk hw; have HBj := Aside0.mk hb; have HI0 := Aside0.mk HB2.out.size; have HSZ := Aside0.mk (Nat.le_trans HSZ0.out hb.size); have HB3 := Aside0.mk (HB2.out.trans (hb.mono HB2.out.size)); clear hw hb)
    | (go_at_call 16; ((with_reducible refine (HOp.out _ Af cf (Kd.C_below HCf.out HBf.out) hcf).mono ?_)); rintro e x2 ⟨B, rfl, hl2, hb⟩; have HLs := Aside0.mk hl2; have HSZ0 := Aside0.mk hb.size; have HB2 := Aside0.mk (HB1.out.trans (hb.mono HB1.out.size)); clear hl2 hb)
    | (go_at_call 8; ((with_reducible refine (awake_calls _).mono ?_)); rintro e x1 ⟨rfl, hb⟩; have HBf := Aside0.mk hb; have HB1 := Aside0.mk (HB0.out.trans (hb.mono HB0.out.size)); clear hb)
    | (go_at_call 10; ((with_reducible refine (HBu.out _ (Below.refl _ _)).mono ?_)); rintro e x0 ⟨Af, cf, rfl, hcf, hCf, hb⟩; have HCf := Aside0.mk hCf; have HB0 := Aside0.mk hb; clear hCf hb))
  obtain ⟨I, hI⟩ : ∃ I, x2.heap.size = I := ⟨_, rfl⟩
  obtain ⟨J, hJ⟩ : ∃ J, x3.heap.size = J := ⟨_, rfl⟩
  obtain ⟨bs, hbs⟩ : ∃ bs, x1.heap.size = bs := ⟨_, rfl⟩
  rw [hI] at HWI2 HIJ HI0
  rw [hJ] at HWJ HIJ HJ0
  rw [hbs] at HWI2 HWJ HSZ2 HLs2
  rw [hI, hJ]
  clear HBu HOp HCf HBf HB1 HLs HSZ0 HWI HBj HSZ HB2 HB3 hI hJ hbs
  go_loopg [11] D.length (fun kq v11 w' => ∃ (i : Nat) (g : Int), v11 = .int .i64 (i : Int) ∧ Aside0 (i ≤ D.length) ∧ Aside0 (Wk l w' I bs B g) ∧ Aside0 (Wk l w' J bs B g) ∧ Aside0 (Below w.heap.size w w') ∧ Aside0 (bs ≤ w'.heap.size) ∧ Aside0 (D.length - i ≤ kq))
  case atStart => exact ⟨0, -1, rfl, ⟨Nat.zero_le _⟩, HWI2, HWJ, HB4, HSZ2, ⟨Nat.le_refl _⟩⟩
  case round =>
    clear HWI2 HWJ HB4 HSZ2 HLs2
    obtain ⟨i, g, rfl, hi, HX, HY, HB, HS, HK⟩ := hrel
    have hii := hi.out
    by_cases hlt : i < D.length
    · obtain ⟨ad, rfl, hdc0⟩ := Kd.at_int HD.out (i : Int) (by omega) (by omega)
      rw [Int.toNat_natCast] at hdc0
      obtain ⟨dv, hdv⟩ : ∃ dv, rd D (i : Int) = dv := ⟨_, rfl⟩
      rw [hdv] at hdc0
      have HDC := Aside0.mk hdc0
      have hdc := pw_cell_below HB.out hdc0
      obtain ⟨t, ht⟩ : ∃ t, advG l g dv = t := ⟨_, rfl⟩
      have HT0 := Aside0.mk ht
      have htl := advG_le l g dv HX.out.g1
      have htg := advG_ge l g dv HX.out.g0
      rw [ht] at htl htg
      obtain ⟨d0, hd0⟩ : ∃ d0, docAt l g = d0 := ⟨_, rfl⟩
      obtain ⟨d1, hd1'⟩ : ∃ d1, docAt l t = d1 := ⟨_, rfl⟩
      obtain ⟨ps, hps'⟩ : ∃ ps, posAt l t = ps := ⟨_, rfl⟩
      have hd1 := Aside0.mk hd1'
      have hps := Aside0.mk hps'
      have hdm := doc_mono l HR.out g t HX.out.g0 htg htl.2
      have hok := doc_lt l HR.out t htl.1 htl.2
      rw [hd0, hd1'] at hdm
      rw [hd1'] at hok
      have hok2 : decide (t < (l.length : Int)) = decide (d1 < 16384) := by
        by_cases h1 : d1 < 16384
        · rw [decide_eq_true h1, decide_eq_true (hok.1 h1)]
        · rw [decide_eq_false h1, decide_eq_false (fun e => h1 (hok.2 e))]
      have hdn : ¬ d1 < d0 := by omega
      have hdnd : decide (d1 < d0) = false := decide_eq_false hdn
      have HX24 := Aside0.mk (HX.out.doc hd0)
      have HX20 : Aside0 (∀ W, Below wr.heap.size wr W → Calls Try.prog 20 #[.pointer (some ⟨I, 0, none⟩), .int .i64 dv] W fun e w' => e = .returned (.bool (decide (d1 < 16384))) ∧ Wk l w' I bs B t ∧ Wk l w' J bs B g ∧ Below w.heap.size w w' ∧ bs ≤ w'.heap.size) := ⟨fun W hW => by
        refine (WAdv_calls l HR.out I bs B g dv W (HX.out.below hW) (Nat.le_trans HS.out hW.size)).mono ?_
        rw [ht, hok2]
        rintro e w' ⟨h1, h2, h3⟩
        have hne : J ≠ I := by have := HIJ.out; omega
        have hWB := HB.out.trans (hW.mono HB.out.size)
        exact ⟨h1, h2, (HY.out.below hW).other (HX.out.below hW) hne h3, hWB.grown h3 hWB.size (fun k e => by injection e with e; have := HI0.out; omega), Nat.le_trans (Nat.le_trans HS.out hW.size) h3.size⟩⟩
      clear hdv ht hd0 hd1' hps' hok hok2 hdm hdc0
      go_wp2_with (first
        | (go_at_call 20; ((with_reducible refine (HX20.out _ HBd.out).mono ?_)); rintro e y2 ⟨rfl, hx, hy, hb, hs⟩; have HXa := Aside0.mk hx; have HYa := Aside0.mk hy; have HBa := Aside0.mk hb; have HSa := Aside0.mk hs; clear hx hy hb hs)
        | (go_at_call 24; ((with_reducible refine (HX24.out _ (Below.refl _ _)).mono ?_)); rintro e y1 ⟨rfl, hb⟩; have HBd := Aside0.mk hb; have hdc1 := pw_cell_below hb hdc; clear hb))
      clear HX HY HB HS HX24 HX20 HBd hdc hdc1
      go_loopg [] ((l.length : Int) - g).toNat (fun kq w' => ∃ h : Int, Aside0 (Wk l w' J bs B h) ∧ Aside0 (Wk l w' I bs B t) ∧ Aside0 (Below w.heap.size w w') ∧ Aside0 (bs ≤ w'.heap.size) ∧ Aside0 (advG l h dv = t) ∧ Aside0 (((l.length : Int) - h).toNat ≤ kq))
      case atStart => exact ⟨g, HYa, HXa, HBa, HSa, HT0, ⟨Nat.le_refl _⟩⟩
      case round =>
        clear HYa HXa HBa HSa HT0
        obtain ⟨h, HY2, HX2, HB2, HS2, HT, HK2⟩ := hrel
        obtain ⟨dh, hdh'⟩ : ∃ dh, docAt l h = dh := ⟨_, rfl⟩
        have hdc := pw_cell_below HB2.out HDC.out
        have hdh := Aside0.mk hdh'
        have HYn := Aside0.mk (HY2.out.docN hdh')
        clear hdh'
        have hNX : ∀ b, decide (nextG l h < l.length) = b → ∀ k, Calls Try.prog 18 #[.pointer (some ⟨J, 0, none⟩)] (wr.drewN k) fun e w' => e = .returned (.bool b) ∧ Wk l w' J bs B (nextG l h) ∧ Wk l w' I bs B t ∧ Below w.heap.size w w' ∧ bs ≤ w'.heap.size := fun b hb k => by
          have hW := pw_below_drewN (Below.refl wr.heap.size wr) k
          refine (WNext_calls l HR.out J bs B h (wr.drewN k) (HY2.out.below hW) (Nat.le_trans HS2.out hW.size)).mono ?_
          rw [hb]
          rintro e w' ⟨h1, h2, h3⟩
          have hne : I ≠ J := by have := HIJ.out; omega
          have hWB := HB2.out.trans (hW.mono HB2.out.size)
          exact ⟨h1, h2, (HX2.out.below hW).other (HY2.out.below hW) hne h3, hWB.grown h3 hWB.size (fun k e => by injection e with e; have := HJ0.out; omega), Nat.le_trans (Nat.le_trans HS2.out hW.size) h3.size⟩
        by_cases c1 : dh < dv
        · by_cases hn : nextG l h < l.length
          · have hno := hNX true (decide_eq_true hn)
            have hng : nextG l h = h + 1 := nextG_lt hn
            rw [hng] at hno
            have HNX := Aside0.mk hno
            clear hNX hno
            go_wp2
            go_big_quiet (first | (go_at_call 24; ((with_reducible refine (HYn.out _).mono ?_)); rintro e w6 ⟨rfl, kd, rfl⟩; exact ⟨rfl, _, rfl⟩))
            go_wp2_with (go_at_call 18; ((with_reducible refine (HNX.out _).mono ?_)); rintro e y3 ⟨rfl, hy, hx, hb, hs⟩; have HYt := Aside0.mk hy; have HXt := Aside0.mk hx; have HBt := Aside0.mk hb; have HSt := Aside0.mk hs; clear hy hx hb hs)
            go_roundg ((l.length : Int) - (h + 1)).toNat
            case measure => have := HK2.out; have := HY2.out.g1; have := nextG_lt2 hn; omega
            case rel => exact ⟨h + 1, HYt, HXt, HBt, HSt, ⟨by rw [← hng, advG_step l HR.out h dv HY2.out.g0 HY2.out.g1 (by rw [hdh.out]; omega), HT.out]⟩, ⟨Nat.le_refl _⟩⟩
          · have hno := hNX false (decide_eq_false hn)
            have hnt : nextG l h = t := by
              have h1 := nextG_end hn HY2.out.g1
              rw [← HT.out, ← advG_step l HR.out h dv HY2.out.g0 HY2.out.g1 (by rw [hdh.out]; omega), h1, advG_end]
            rw [hnt] at hno
            have HNX := Aside0.mk hno
            clear hNX hno
            go_wp2
            go_big_quiet (first | (go_at_call 24; ((with_reducible refine (HYn.out _).mono ?_)); rintro e w6 ⟨rfl, kd, rfl⟩; exact ⟨rfl, _, rfl⟩))
            go_wp2_with (first
              | (go_at_call 27; ((with_reducible refine (Ints_same Ax Ay cx cy ps _ (Kd.C_below HCx.out HBx.out) hcx HCy.out hcy).mono ?_)); rintro e z ⟨rfl, hb⟩; replace HBc := Aside0.mk (HBc.out.trans (hb.mono HBc.out.size)); clear hb)
              | (go_at_call 22; ((with_reducible refine (HX22.out _ HBc.out).mono ?_)); rintro e z ⟨Ax, cx, rfl, hcx, hCx, hb⟩; have HCx := Aside0.mk hCx; replace HBc := Aside0.mk (HBc.out.trans (hb.mono HBc.out.size)); clear hCx hb)
              | (go_at_call 22; ((with_reducible refine (HY22.out _ HBc.out).mono ?_)); rintro e z ⟨Ay, cy, rfl, hcy, hCy, hb⟩; have HCy := Aside0.mk hCy; have HBx := Aside0.mk hb; replace HBc := Aside0.mk (HBc.out.trans (hb.mono HBc.out.size)); clear hCy hb)
              | (go_at_call 26; ((with_reducible refine (HX26.out _ HBc.out).mono ?_)); rintro e z ⟨rfl, hb⟩; replace HBc := Aside0.mk (HBc.out.trans (hb.mono HBc.out.size)); clear hb)
              | (go_at_call 26; ((with_reducible refine (HY26.out _ HBc.out).mono ?_)); rintro e z ⟨rfl, hb⟩; replace HBc := Aside0.mk (HBc.out.trans (hb.mono HBc.out.size)); clear hb)
              | (go_at_call 24; ((with_reducible refine (HX24.out _ HBc.out).mono ?_)); rintro e z ⟨rfl, hb⟩; replace HBc := Aside0.mk (HBc.out.trans (hb.mono HBc.out.size)); clear hb)
              | (go_at_call 24; ((with_reducible refine (HY24.out _ HBc.out).mono ?_)); rintro e z ⟨rfl, hb⟩; replace HBc := Aside0.mk (HBc.out.trans (hb.mono HBc.out.size)); clear hb)
              | (go_at_call 18; ((with_reducible refine (HNX.out _).mono ?_)); rintro e y3 ⟨rfl, hy, hx, hb, hs⟩; have HYt := Aside0.mk hy; have HXt := Aside0.mk hx; have HBt := Aside0.mk hb; have HSt := Aside0.mk hs; clear hy hx hb hs; have HX24 := Aside0.mk (HXt.out.doc hd1.out); have HX26 := Aside0.mk (HXt.out.freq hps.out); have HX22 := Aside0.mk (HXt.out.pos HR.out hps.out); have HY24 := Aside0.mk (HYt.out.doc hd1.out); have HY26 := Aside0.mk (HYt.out.freq hps.out); have HY22 := Aside0.mk (HYt.out.pos HR.out hps.out); have HBc := Aside0.mk (Below.refl y3.heap.size y3)))
            go_roundg (D.length - (i + 1))
            case measure => have := HK.out; omega
            case rel => exact ⟨i + 1, t, by first | rfl | (simp; done), ⟨hlt⟩, ⟨HXt.out.below HBc.out⟩, ⟨HYt.out.below HBc.out⟩, ⟨HBt.out.trans (HBc.out.mono HBt.out.size)⟩, ⟨Nat.le_trans HSt.out HBc.out.size⟩, ⟨Nat.le_refl _⟩⟩
        · by_cases c2 : dh < 0
          · have hc1 : decide (dh < dv) = false := decide_eq_false c1
            by_cases hn : nextG l h < l.length
            · have hno := hNX true (decide_eq_true hn)
              have hng : nextG l h = h + 1 := nextG_lt hn
              rw [hng] at hno
              have HNX := Aside0.mk hno
              clear hNX hno
              go_wp2
              go_big_quiet (first | (go_at_call 24; ((with_reducible refine (HYn.out _).mono ?_)); rintro e w6 ⟨rfl, kd, rfl⟩; exact ⟨rfl, _, rfl⟩))
              go_wp2_with (go_at_call 18; ((with_reducible refine (HNX.out _).mono ?_)); rintro e y3 ⟨rfl, hy, hx, hb, hs⟩; have HYt := Aside0.mk hy; have HXt := Aside0.mk hx; have HBt := Aside0.mk hb; have HSt := Aside0.mk hs; clear hy hx hb hs)
              go_roundg ((l.length : Int) - (h + 1)).toNat
              case measure => have := HK2.out; have := HY2.out.g1; have := nextG_lt2 hn; omega
              case rel => exact ⟨h + 1, HYt, HXt, HBt, HSt, ⟨by rw [← hng, advG_step l HR.out h dv HY2.out.g0 HY2.out.g1 (by rw [hdh.out]; omega), HT.out]⟩, ⟨Nat.le_refl _⟩⟩
            · have hno := hNX false (decide_eq_false hn)
              have hnt : nextG l h = t := by
                have h1 := nextG_end hn HY2.out.g1
                rw [← HT.out, ← advG_step l HR.out h dv HY2.out.g0 HY2.out.g1 (by rw [hdh.out]; omega), h1, advG_end]
              rw [hnt] at hno
              have HNX := Aside0.mk hno
              clear hNX hno
              go_wp2
              go_big_quiet (first | (go_at_call 24; ((with_reducible refine (HYn.out _).mono ?_)); rintro e w6 ⟨rfl, kd, rfl⟩; exact ⟨rfl, _, rfl⟩))
              go_wp2_with (first
                | (go_at_call 27; ((with_reducible refine (Ints_same Ax Ay cx cy ps _ (Kd.C_below HCx.out HBx.out) hcx HCy.out hcy).mono ?_)); rintro e z ⟨rfl, hb⟩; replace HBc := Aside0.mk (HBc.out.trans (hb.mono HBc.out.size)); clear hb)
                | (go_at_call 22; ((with_reducible refine (HX22.out _ HBc.out).mono ?_)); rintro e z ⟨Ax, cx, rfl, hcx, hCx, hb⟩; have HCx := Aside0.mk hCx; replace HBc := Aside0.mk (HBc.out.trans (hb.mono HBc.out.size)); clear hCx hb)
                | (go_at_call 22; ((with_reducible refine (HY22.out _ HBc.out).mono ?_)); rintro e z ⟨Ay, cy, rfl, hcy, hCy, hb⟩; have HCy := Aside0.mk hCy; have HBx := Aside0.mk hb; replace HBc := Aside0.mk (HBc.out.trans (hb.mono HBc.out.size)); clear hCy hb)
                | (go_at_call 26; ((with_reducible refine (HX26.out _ HBc.out).mono ?_)); rintro e z ⟨rfl, hb⟩; replace HBc := Aside0.mk (HBc.out.trans (hb.mono HBc.out.size)); clear hb)
                | (go_at_call 26; ((with_reducible refine (HY26.out _ HBc.out).mono ?_)); rintro e z ⟨rfl, hb⟩; replace HBc := Aside0.mk (HBc.out.trans (hb.mono HBc.out.size)); clear hb)
                | (go_at_call 24; ((with_reducible refine (HX24.out _ HBc.out).mono ?_)); rintro e z ⟨rfl, hb⟩; replace HBc := Aside0.mk (HBc.out.trans (hb.mono HBc.out.size)); clear hb)
                | (go_at_call 24; ((with_reducible refine (HY24.out _ HBc.out).mono ?_)); rintro e z ⟨rfl, hb⟩; replace HBc := Aside0.mk (HBc.out.trans (hb.mono HBc.out.size)); clear hb)
                | (go_at_call 18; ((with_reducible refine (HNX.out _).mono ?_)); rintro e y3 ⟨rfl, hy, hx, hb, hs⟩; have HYt := Aside0.mk hy; have HXt := Aside0.mk hx; have HBt := Aside0.mk hb; have HSt := Aside0.mk hs; clear hy hx hb hs; have HX24 := Aside0.mk (HXt.out.doc hd1.out); have HX26 := Aside0.mk (HXt.out.freq hps.out); have HX22 := Aside0.mk (HXt.out.pos HR.out hps.out); have HY24 := Aside0.mk (HYt.out.doc hd1.out); have HY26 := Aside0.mk (HYt.out.freq hps.out); have HY22 := Aside0.mk (HYt.out.pos HR.out hps.out); have HBc := Aside0.mk (Below.refl y3.heap.size y3)))
              go_roundg (D.length - (i + 1))
              case measure => have := HK.out; omega
              case rel => exact ⟨i + 1, t, by first | rfl | (simp; done), ⟨hlt⟩, ⟨HXt.out.below HBc.out⟩, ⟨HYt.out.below HBc.out⟩, ⟨HBt.out.trans (HBc.out.mono HBt.out.size)⟩, ⟨Nat.le_trans HSt.out HBc.out.size⟩, ⟨Nat.le_refl _⟩⟩
          · have hht : h = t := by rw [← HT.out]; exact (advG_stop l h dv HY2.out.g0 HY2.out.g1 (by rw [hdh.out]; exact c1) (by rw [hdh.out]; exact c2)).symm
            clear hNX
            subst hht
            have hc1 : decide (dh < dv) = false := decide_eq_false c1
            have hc2 : decide (dh < 0) = false := decide_eq_false c2
            go_wp2
            go_big_quiet (first | (go_at_call 24; ((with_reducible refine (HYn.out _).mono ?_)); rintro e w6 ⟨rfl, kd, rfl⟩; exact ⟨rfl, _, rfl⟩))
            have HQ := Aside0.mk (pw_below_drewN (Below.refl wr.heap.size wr) nq)
            have HYt := Aside0.mk (HY2.out.below HQ.out); have HXt := Aside0.mk (HX2.out.below HQ.out); have HBt := Aside0.mk (HB2.out.trans (HQ.out.mono HB2.out.size)); have HSt := Aside0.mk (Nat.le_trans HS2.out HQ.out.size)
            have HX24 := Aside0.mk (HXt.out.doc hd1.out); have HX26 := Aside0.mk (HXt.out.freq hps.out); have HX22 := Aside0.mk (HXt.out.pos HR.out hps.out); have HY24 := Aside0.mk (HYt.out.doc hd1.out); have HY26 := Aside0.mk (HYt.out.freq hps.out); have HY22 := Aside0.mk (HYt.out.pos HR.out hps.out); have HBc := Aside0.mk (Below.refl (wr.drewN nq).heap.size (wr.drewN nq))
            go_wp2_with (first
              | (go_at_call 27; ((with_reducible refine (Ints_same Ax Ay cx cy ps _ (Kd.C_below HCx.out HBx.out) hcx HCy.out hcy).mono ?_)); rintro e z ⟨rfl, hb⟩; replace HBc := Aside0.mk (HBc.out.trans (hb.mono HBc.out.size)); clear hb)
              | (go_at_call 22; ((with_reducible refine (HX22.out _ HBc.out).mono ?_)); rintro e z ⟨Ax, cx, rfl, hcx, hCx, hb⟩; have HCx := Aside0.mk hCx; replace HBc := Aside0.mk (HBc.out.trans (hb.mono HBc.out.size)); clear hCx hb)
              | (go_at_call 22; ((with_reducible refine (HY22.out _ HBc.out).mono ?_)); rintro e z ⟨Ay, cy, rfl, hcy, hCy, hb⟩; have HCy := Aside0.mk hCy; have HBx := Aside0.mk hb; replace HBc := Aside0.mk (HBc.out.trans (hb.mono HBc.out.size)); clear hCy hb)
              | (go_at_call 26; ((with_reducible refine (HX26.out _ HBc.out).mono ?_)); rintro e z ⟨rfl, hb⟩; replace HBc := Aside0.mk (HBc.out.trans (hb.mono HBc.out.size)); clear hb)
              | (go_at_call 26; ((with_reducible refine (HY26.out _ HBc.out).mono ?_)); rintro e z ⟨rfl, hb⟩; replace HBc := Aside0.mk (HBc.out.trans (hb.mono HBc.out.size)); clear hb)
              | (go_at_call 24; ((with_reducible refine (HX24.out _ HBc.out).mono ?_)); rintro e z ⟨rfl, hb⟩; replace HBc := Aside0.mk (HBc.out.trans (hb.mono HBc.out.size)); clear hb)
              | (go_at_call 24; ((with_reducible refine (HY24.out _ HBc.out).mono ?_)); rintro e z ⟨rfl, hb⟩; replace HBc := Aside0.mk (HBc.out.trans (hb.mono HBc.out.size)); clear hb))
            go_roundg (D.length - (i + 1))
            case measure => have := HK.out; omega
            case rel => exact ⟨i + 1, h, by first | rfl | (simp; done), ⟨hlt⟩, ⟨HXt.out.below HBc.out⟩, ⟨HYt.out.below HBc.out⟩, ⟨HBt.out.trans (HBc.out.mono HBt.out.size)⟩, ⟨Nat.le_trans HSt.out HBc.out.size⟩, ⟨Nat.le_refl _⟩⟩
    · have hid : i = D.length := by omega
      have HLs := Aside0.mk HX.out.it.l
      clear hd hcD
      obtain ⟨nD, hnD⟩ : ∃ nD, D.length = nD := ⟨_, rfl⟩
      rw [hnD] at hlt hid
      go_wp2_with (go_at_call 17; ((with_reducible refine (WIter_calls l B bs _ HLs.out HS.out).mono ?_)); rintro e x4 ⟨rfl, hw, hb⟩; have HZ := Aside0.mk hw; have HK0 := Aside0.mk HB.out.size; have HSz := Aside0.mk (Nat.le_trans HS.out hb.size); have HBz := Aside0.mk (HB.out.trans (hb.mono HB.out.size)); clear hw hb)
      obtain ⟨K, hKe⟩ : ∃ K, wr.heap.size = K := ⟨_, rfl⟩
      rw [hKe] at HZ HK0
      rw [hKe]
      clear hKe hi hii HX HY HB HS HK HLs hid hlt hnD
      go_loopg [14] l.length (fun kq v14 w' => ∃ n : Nat, v14 = .int .i64 (n : Int) ∧ Aside0 (n ≤ l.length) ∧ Aside0 (Wk l w' K bs B ((n : Int) - 1)) ∧ Aside0 (Below w.heap.size w w') ∧ Aside0 (bs ≤ w'.heap.size) ∧ Aside0 (l.length - n ≤ kq))
      case atStart => exact ⟨0, rfl, ⟨Nat.zero_le _⟩, HZ, HBz, HSz, ⟨Nat.le_refl _⟩⟩
      case round =>
        clear HZ HBz HSz
        obtain ⟨n, rfl, hn, HZ, HB, HS, HK⟩ := hrel
        have hnn := hn.out
        have hng : nextG l ((n : Int) - 1) = n := nextG_n hnn
        have hNX : ∀ b, decide ((n : Int) < l.length) = b → ∀ W, Below wr.heap.size wr W → Calls Try.prog 18 #[.pointer (some ⟨K, 0, none⟩)] W fun e w' => e = .returned (.bool b) ∧ Wk l w' K bs B n ∧ Below w.heap.size w w' ∧ bs ≤ w'.heap.size := fun b hb W hW => by
          refine (WNext_calls l HR.out K bs B ((n : Int) - 1) W (HZ.out.below hW) (Nat.le_trans HS.out hW.size)).mono ?_
          rw [hng, hb]
          rintro e w' ⟨h1, h2, h3⟩
          have hWB := HB.out.trans (hW.mono HB.out.size)
          exact ⟨h1, h2, hWB.grown h3 hWB.size (fun k e => by injection e with e; have := HK0.out; omega), Nat.le_trans (Nat.le_trans HS.out hW.size) h3.size⟩
        by_cases hlt2 : n < l.length
        · have HNX := Aside0.mk (hNX true (decide_eq_true (by omega)))
          obtain ⟨ad, A1, c1, rfl, hx0, hx1, hl1, _⟩ := at_T58 H.out (n : Int) (by omega) (by omega)
          rw [Int.toNat_natCast] at hx0 hx1
          obtain ⟨p, hp⟩ : ∃ p, rd_T58 l (n : Int) = p := ⟨_, rfl⟩
          rw [hp] at hx0 hx1 hl1
          have hdp := Aside0.mk (docAt_n hlt2 hp)
          have hpp := Aside0.mk (posAt_n hlt2 hp)
          have HX0 := Aside0.mk hx0
          have hge1 : decide ((l.length : Int) ≤ (n : Int)) = false := decide_eq_false (by omega)
          have hge2 : decide (l.length ≤ n) = false := decide_eq_false (by omega)
          have HX1 := Aside0.mk hx1
          clear hNX hp hng hx0 hx1
          go_wp2_with (go_at_call 18; ((with_reducible refine (HNX.out _ (Below.refl _ _)).mono ?_)); rintro e y1 ⟨rfl, hz, hb, hs⟩; have HZ1 := Aside0.mk hz; have HZ24 := Aside0.mk (hz.docN hdp.out); have HZ26 := Aside0.mk (hz.freqN hpp.out); have HB1 := Aside0.mk hb; have HS1 := Aside0.mk hs; have hx0 := pw_cell_below hb HX0.out; have hx1 := pw_cell_below hb HX1.out; clear hz hb hs)
          go_big_quiet (first | (go_at_call 24; ((with_reducible refine (HZ24.out _).mono ?_)); rintro e w6 ⟨rfl, kd, rfl⟩; exact ⟨rfl, _, rfl⟩) | (go_at_call 26; ((with_reducible refine (HZ26.out _).mono ?_)); rintro e w6 ⟨rfl, kd, rfl⟩; exact ⟨rfl, _, rfl⟩))
          go_wp2
          have HQ := Aside0.mk (pw_below_drewN (Below.refl y1.heap.size y1) nq)
          go_roundg (l.length - (n + 1))
          case measure => have := HK.out; omega
          case rel => exact ⟨n + 1, by first | rfl | (simp; done), ⟨hlt2⟩, ⟨by have := HZ1.out.below HQ.out; rw [show (((n + 1 : Nat) : Int) - 1) = (n : Int) from by omega]; exact this⟩, ⟨HB1.out.trans (HQ.out.mono HB1.out.size)⟩, ⟨Nat.le_trans HS1.out HQ.out.size⟩, ⟨Nat.le_refl _⟩⟩
        · have hne : n = l.length := by omega
          have HNX := Aside0.mk (hNX false (decide_eq_false (by omega)))
          have HN2 : Aside0 (∀ W, Wk l W K bs B n → bs ≤ W.heap.size → Calls Try.prog 18 #[.pointer (some ⟨K, 0, none⟩)] W fun e w' => e = .returned (.bool false) ∧ W.grownBy w' (some K)) := ⟨fun W h hS => by
            refine (WNext_calls l HR.out K bs B n W h hS).mono ?_
            have e2 : nextG l (n : Int) = n := by unfold nextG; rw [if_neg (by omega)]
            rw [e2, decide_eq_false (by omega)]
            rintro e w' ⟨h1, h2, h3⟩
            exact ⟨h1, h3⟩⟩
          clear hNX hng hlt2 hnn HZ HB HS HK hn hl hc H
          obtain ⟨ll, hll⟩ : ∃ ll, l.length = ll := ⟨_, rfl⟩
          rw [hll] at hne ⊢
          subst hne
          go_wp2_with (first
            | (go_at_call 18; ((with_reducible refine (HN2.out _ HZ1.out HS1.out).mono ?_)); rintro e y2 ⟨rfl, hg⟩; have HB2 := Aside0.mk (HB1.out.grown hg HB1.out.size (fun k e => by injection e with e; have := HK0.out; omega)); clear hg)
            | (go_at_call 18; ((with_reducible refine (HNX.out _ (Below.refl _ _)).mono ?_)); rintro e y1 ⟨rfl, hz, hb, hs⟩; have HZ1 := Aside0.mk hz; have HB1 := Aside0.mk hb; have HS1 := Aside0.mk hs; clear hz hb hs))
          go_ret
          exact ⟨rfl, HB2.out⟩
end Go.Proofs.Ytimlgpfcgklddaa.P
/-
The law's plain posts; the document's Build of them, by contract.
-/
namespace Go.Proofs.Ytimlgpfcgklddaa.P
open Go.RowKit Go.Shelf Go.Proofs.YtimlgpfcgklddaaW.PrintWords Go.Proofs.YtimlgpfcgklddaaW.PrintLast Go.Proofs.YtimlgpfcgklddaaW.PrintMore
set_option linter.unusedVariables false
def to86 (p : S58) : S86 := ⟨p.f0, p.f1⟩
theorem to58_86 (l : List S58) : (l.map to86).map to58 = l := by
  rw [List.map_map]
  conv => rhs; rw [← List.map_id l]
  rfl
theorem plain_go (l : List S58) (hl : l.length ≤ 4398046511103) : ∀ (k i : Nat) (acc : List S86), l.length < i + k → i ≤ l.length → acc.length = i → lecternlaw10_plain.l0 k l acc i = some (acc ++ (l.drop i).map to86)
  | 0, i, acc, h, hi, ha => by omega
  | k + 1, i, acc, h, hi, ha => by
    rw [lecternlaw10_plain.l0]
    by_cases hlt : i < l.length
    · have ih := plain_go l hl k (i + 1) (acc ++ [⟨(rd_T58 l i).f0, (rd_T58 l i).f1⟩]) (by omega) (by omega) (by rw [List.length_append, ha]; rfl)
      rw [if_pos (by omega), if_pos (by omega), if_pos (by omega), w64s i (by omega), ih, List.drop_eq_getElem_cons hlt, List.map_cons]
      have e : rd_T58 l (i : Int) = l[i] := by unfold rd_T58; rw [Int.toNat_natCast]; simp [hlt]
      rw [e, List.append_assoc]
      rfl
    · rw [if_neg (by omega), List.drop_eq_nil_of_le (by omega)]
      simp
theorem heap58 : Kd.Heap k58 := Kd.heap_iso _ (Kd.heap_pair (Kd.heap_int _) (Kd.heap_slice 3 (Kd.heap_int _)))
theorem plain_calls (A : Option Addr) (l : List S58) (c : Nat) (w : World) (h : Kd.C k58 w A l.length l) (hc : l.length ≤ c) (hl : l.length ≤ 4398046511103) :
    Calls Try.prog 12 #[.slice A l.length c] w fun e w' => ∃ A' c', e = .returned (.slice A' (l.map to86).length c') ∧ (l.map to86).length ≤ c' ∧ Kd.C k86 w' A' (l.map to86).length (l.map to86) ∧ Below w.heap.size w w' := by
  refine (lecternlaw10_plain.calls (l.length + 1) (fun k => k < w.heap.size) A c l (l.map to86) w (Kd.V_mk hc (Kd.C_F heap58 h)) ?_).mono ?_
  · have := plain_go l hl (l.length + 1) 0 [] (by omega) (by omega) rfl
    rw [List.drop_zero, List.nil_append] at this
    exact this
  · rintro e w' ⟨v, rfl, h1, h2⟩
    obtain ⟨A', c', rfl, hc', hC⟩ := Kd.N_reads h1
    exact ⟨A', c', rfl, hc', hC, h2⟩
theorem refB_calls (A : Option Addr) (l : List S58) (c : Nat) (w : World) (h : Kd.C k86 w A (l.map to86).length (l.map to86)) (hc : (l.map to86).length ≤ c) (hl : l.length ≤ 4398046511103) (hp : ∀ p ∈ l, p.f1.length ≤ 4611686018427387904) :
    Calls Try.prog 11 #[.slice A (l.map to86).length c] w fun e w' => ∃ A' c', e = .returned (.tuple #[.slice A' (refOf l).1.length c', .int .i64 (refOf l).2]) ∧ (refOf l).1.length ≤ c' ∧ (Kd.int .u8).C w' A' (refOf l).1.length (refOf l).1 ∧ Below w.heap.size w w' := by
  have hev := build_ev (l.map to86) (by rw [List.length_map]; omega) (fun p hp' => by
    obtain ⟨q, hq, rfl⟩ := List.mem_map.1 hp'
    exact hp q hq)
  rw [to58_86] at hev
  obtain ⟨k, hk⟩ := hev.rounds
  refine (lecternref10_Build.calls k A c (l.map to86) (refOf l).1 (refOf l).2 w h hc hk).mono ?_
  rintro e w' ⟨v, rfl, h1, h2⟩
  obtain ⟨A', c', rfl⟩ := Kd.R_slice h1
  have h3 := Kd.R_reads' h1
  exact ⟨A', c', rfl, h3.2.1, h3.2.2, h2⟩
end Go.Proofs.Ytimlgpfcgklddaa.P
