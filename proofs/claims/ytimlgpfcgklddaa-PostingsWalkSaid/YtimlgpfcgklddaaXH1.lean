/-
Texts of this seat, laid together: H1.
-/
import Derived.Test.YtimlgpfcgklddaaXG4
/-
The document's walks, by contract at their places: Next, Advance, Doc, Positions.
-/
namespace Go.Proofs.Ytimlgpfcgklddaa.P
open Go.RowKit Go.Shelf Go.Proofs.YtimlgpfcgklddaaW.PrintWords Go.Proofs.YtimlgpfcgklddaaW.PrintLast Go.Proofs.YtimlgpfcgklddaaW.PrintMore
set_option linter.unusedVariables false
set_option linter.unusedSimpArgs false
/-- The document's walk at block P stands at place g of the list. -/
structure Yk (w0 w : World) (P : Nat) (A : Option Addr) (c : Nat) (L : List S58) (g : Int) : Prop where
  v : w.heap[P]? = some (.cells #[.slice A L.length c, .int .i64 g] 47 (0, 0))
  C0 : Kd.C k86 w0 A L.length (L.map to86)
  ge : w0.heap.size ≤ P
  bel : Below w0.heap.size w0 w
  g0 : -1 ≤ g
  g1 : g ≤ L.length
  lc : L.length ≤ c
theorem Yk.below {w0 w w' : World} {P : Nat} {A : Option Addr} {c : Nat} {L : List S58} {g : Int} (h : Yk w0 w P A c L g) (hb : Below w.heap.size w w') : Yk w0 w' P A c L g :=
  ⟨blk_below h.v hb, h.C0, h.ge, h.bel.trans (hb.mono h.bel.size), h.g0, h.g1, h.lc⟩
theorem Yk.lt {w0 w : World} {P : Nat} {A : Option Addr} {c : Nat} {L : List S58} {g : Int} (h : Yk w0 w P A c L g) : P < w.heap.size := (Array.getElem?_eq_some_iff.1 h.v).1
theorem Yk.other {w0 w w' : World} {P J : Nat} {A : Option Addr} {c : Nat} {L : List S58} {g : Int} (h : Yk w0 w P A c L g) (hne : P ≠ J) (hJ : w0.heap.size ≤ J) (hg : w.grownBy w' (some J)) : Yk w0 w' P A c L g :=
  ⟨by rw [hg.block P h.lt (fun e => hne (by injection e))]; exact h.v, h.C0, h.ge, h.bel.grown hg h.bel.size (fun k e => by injection e with e; omega), h.g0, h.g1, h.lc⟩
theorem Yk.set {w0 w : World} {P : Nat} {A : Option Addr} {c : Nat} {L : List S58} {g : Int} (h : Yk w0 w P A c L g) (g' : Int) (h0 : -1 ≤ g') (h1 : g' ≤ L.length) : Yk w0 (w.setCell ⟨P, 1, none⟩ (.int .i64 g')) P A c L g' ∧ w.grownBy (w.setCell ⟨P, 1, none⟩ (.int .i64 g')) (some P) := by
  have hg := grownBy_set w P 1 (.int .i64 g')
  exact ⟨⟨blk_set h.v 1 _, h.C0, h.ge, h.bel.grown hg h.bel.size (fun k e => by injection e with e; have := h.ge; omega), h0, h1, h.lc⟩, hg⟩
theorem RNext_calls (w0 w : World) (P : Nat) (A : Option Addr) (c : Nat) (L : List S58) (g : Int) (h : Yk w0 w P A c L g) :
    Calls Try.prog 19 #[.pointer (some ⟨P, 0, none⟩)] w fun e w' => e = .returned (.bool (decide (nextG L g < L.length))) ∧ Yk w0 w' P A c L (nextG L g) ∧ w.grownBy w' (some P) := by
  have HY := Aside0.mk h
  have hc0 := blk_cell h.v 0
  have hc1 := blk_cell h.v 1
  have hf1 := blk_frozen h.v 1
  have hm : L.length ≤ 9223372036854775807 := Kd.C_max h.C0
  have hg0 := h.g0
  have hg1 := h.g1
  by_cases hlt : g < L.length
  · have hn : nextG L g = g + 1 := by unfold nextG; rw [if_pos hlt]
    rw [hn]
    clear h hn
    go_enter Try.func19, Try.ntmps19
    go_wp2
    go_quiet (fail)
    revert nq
    intro n1
    go_wp2
    have hz := (HY.out.below (pw_below_drewN (Below.refl w.heap.size w) n1)).set (g + 1) (by omega) (by omega)
    have HZ := Aside0.mk hz.1
    have HZG := Aside0.mk (grown_trans (grown_of_below (pw_below_drewN (Below.refl w.heap.size w) n1) (some P)) hz.2)
    have hd0 := blk_cell hz.1.v 0
    have hd1 := blk_cell hz.1.v 1
    clear hz
    go_quiet (fail)
    go_wp2
    go_ret
    have HQ := pw_below_drewN (Below.refl ((w.drewN n1).setCell ⟨P, 1, none⟩ (.int .i64 (g + 1))).heap.size ((w.drewN n1).setCell ⟨P, 1, none⟩ (.int .i64 (g + 1)))) nq
    exact ⟨rfl, HZ.out.below HQ, grown_trans HZG.out (grown_of_below HQ _)⟩
  · have hn : nextG L g = g := by unfold nextG; rw [if_neg hlt]
    have hld : decide (g < (L.length : Int)) = false := decide_eq_false hlt
    rw [hn, hld]
    clear h hn
    go_enter Try.func19, Try.ntmps19
    go_wp2
    go_quiet (fail)
    revert nq
    intro n1
    go_wp2
    go_quiet (fail)
    go_wp2
    go_ret
    have HQ := pw_below_drewN (pw_below_drewN (Below.refl w.heap.size w) n1) nq
    exact ⟨rfl, HY.out.below HQ, grown_of_below HQ _⟩
theorem RDoc_calls (w0 w : World) (P : Nat) (A : Option Addr) (c : Nat) (L : List S58) (g : Int) (h : Yk w0 w P A c L g) :
    Calls Try.prog 25 #[.pointer (some ⟨P, 0, none⟩)] w fun e w' => e = .returned (.int .i64 (docAt L g)) ∧ Below w.heap.size w w' := by
  have HY := Aside0.mk h
  have hc0 := blk_cell h.v 0
  have hc1 := blk_cell h.v 1
  have hm : L.length ≤ 9223372036854775807 := Kd.C_max h.C0
  have hg0 := h.g0
  have hg1 := h.g1
  by_cases hn : g < 0
  · have hd : docAt L g = -1 := by unfold docAt; rw [if_pos hn]
    rw [hd]
    clear h hd
    go_enter Try.func25, Try.ntmps25
    go_wp2
    go_ret
    exact ⟨rfl, Below.refl _ _⟩
  · obtain ⟨i, rfl⟩ := Int.eq_ofNat_of_zero_le (show 0 ≤ g by omega)
    by_cases hlt : i < L.length
    · obtain ⟨ad, A1, c1, rfl, hx0, hx1, hl1, _⟩ := at_T86 (Kd.C_below h.C0 h.bel) (i : Int) (by omega) (by omega)
      rw [Int.toNat_natCast] at hx0 hx1
      have hd : docAt L (i : Int) = (rd_T86 (L.map to86) (i : Int)).f0 := by
        rw [docAt_n hlt rfl]
        unfold rd_T86 rd_T58
        rw [Int.toNat_natCast, List.getD_eq_getElem?_getD, List.getD_eq_getElem?_getD, List.getElem?_map, List.getElem?_eq_getElem hlt]
        rfl
      rw [hd]
      have hge : decide ((L.length : Int) ≤ (i : Int)) = false := decide_eq_false (by omega)
      have hge2 : decide (L.length ≤ i) = false := decide_eq_false (by omega)
      clear h hd
      go_enter Try.func25, Try.ntmps25
      go_wp2
      go_quiet (fail)
      revert nq
      intro n1
      go_wp2
      go_quiet (fail)
      go_wp2
      go_ret
      exact ⟨rfl, pw_below_drewN (pw_below_drewN (Below.refl w.heap.size w) n1) nq⟩
    · have hil : i = L.length := by omega
      have hd : docAt L (i : Int) = 16384 := by unfold docAt; rw [if_neg hn, if_neg (by omega)]
      rw [hd]
      have hge : decide ((L.length : Int) ≤ (i : Int)) = true := decide_eq_true (by omega)
      have hge2 : decide (L.length ≤ i) = true := decide_eq_true (by omega)
      clear h hd hil
      go_enter Try.func25, Try.ntmps25
      go_wp2
      go_quiet (fail)
      go_wp2
      go_ret
      exact ⟨rfl, pw_below_drewN (Below.refl w.heap.size w) nq⟩
theorem RPos_calls (w0 w : World) (P : Nat) (A : Option Addr) (c : Nat) (L : List S58) (g : Int) (h : Yk w0 w P A c L g) :
    Calls Try.prog 23 #[.pointer (some ⟨P, 0, none⟩)] w fun e w' => ∃ A1 c1, e = .returned (.slice A1 (posAt L g).length c1) ∧ (posAt L g).length ≤ c1 ∧ (Kd.int .i64).C w' A1 (posAt L g).length (posAt L g) ∧ Below w.heap.size w w' := by
  have HY := Aside0.mk h
  have hc0 := blk_cell h.v 0
  have hc1 := blk_cell h.v 1
  have hm : L.length ≤ 9223372036854775807 := Kd.C_max h.C0
  have hg0 := h.g0
  have hg1 := h.g1
  by_cases hn : g < 0
  · have hd : posAt L g = [] := by unfold posAt; rw [if_pos hn]
    rw [hd]
    have hn1 : decide (g < 0) = true := decide_eq_true hn
    clear h hd
    go_enter Try.func23, Try.ntmps23
    go_wp2
    go_quiet (fail)
    go_wp2
    go_ret
    exact ⟨none, 0, rfl, Nat.le_refl _, Kd.C_nil _ _, pw_below_drewN (Below.refl w.heap.size w) nq⟩
  · obtain ⟨i, rfl⟩ := Int.eq_ofNat_of_zero_le (show 0 ≤ g by omega)
    have hn1 : decide ((i : Int) < 0) = false := decide_eq_false hn
    by_cases hlt : i < L.length
    · obtain ⟨ad, A1, c1, rfl, hx0, hx1, hl1, hC1⟩ := at_T86 (Kd.C_below h.C0 h.bel) (i : Int) (by omega) (by omega)
      rw [Int.toNat_natCast] at hx0 hx1
      have hd : posAt L (i : Int) = (rd_T86 (L.map to86) (i : Int)).f1 := by
        unfold posAt
        rw [if_neg hn, if_pos (by omega)]
        unfold rd_T86
        rw [Int.toNat_natCast, List.getD_eq_getElem?_getD, List.getD_eq_getElem?_getD, List.getElem?_map, List.getElem?_eq_getElem hlt]
        rfl
      rw [hd]
      obtain ⟨ps, hps⟩ : ∃ ps, (rd_T86 (L.map to86) (i : Int)).f1 = ps := ⟨_, rfl⟩
      rw [hps] at hx1 hl1 hC1 ⊢
      have HC1 := Aside0.mk hC1
      have hge : decide ((L.length : Int) ≤ (i : Int)) = false := decide_eq_false (by omega)
      have hge2 : decide (L.length ≤ i) = false := decide_eq_false (by omega)
      clear h hd hps hC1
      go_enter Try.func23, Try.ntmps23
      go_wp2
      go_quiet (fail)
      revert nq
      intro n1
      go_wp2
      go_quiet (fail)
      go_wp2
      go_ret
      have HQ := pw_below_drewN (pw_below_drewN (Below.refl w.heap.size w) n1) nq
      exact ⟨A1, c1, rfl, hl1, Kd.C_below HC1.out HQ, HQ⟩
    · have hd : posAt L (i : Int) = [] := by unfold posAt; rw [if_neg hn, if_neg (by omega)]
      rw [hd]
      have hge : decide ((L.length : Int) ≤ (i : Int)) = true := decide_eq_true (by omega)
      have hge2 : decide (L.length ≤ i) = true := decide_eq_true (by omega)
      clear h hd
      go_enter Try.func23, Try.ntmps23
      go_wp2
      go_quiet (fail)
      go_wp2
      go_ret
      exact ⟨none, 0, rfl, Nat.le_refl _, Kd.C_nil _ _, pw_below_drewN (Below.refl w.heap.size w) nq⟩
theorem adv_neg {L : List S58} {g doc t : Int} (h : advG L g doc = t) (h0 : -1 ≤ g) (h1 : g < 0) : advG L ((0 : Nat) : Int) doc = t := by
  have hg : g = -1 := by omega
  subst hg
  exact h
theorem RAdv_calls (w0 w : World) (P : Nat) (A : Option Addr) (c : Nat) (L : List S58) (hR : rightB (-1) 0 L = true) (g doc : Int) (h : Yk w0 w P A c L g) :
    Calls Try.prog 21 #[.pointer (some ⟨P, 0, none⟩), .int .i64 doc] w fun e w' => e = .returned (.bool (decide (advG L g doc < L.length))) ∧ Yk w0 w' P A c L (advG L g doc) ∧ w.grownBy w' (some P) := by
  have HY := Aside0.mk h
  have HR := Aside0.mk hR
  have hc0 := blk_cell h.v 0
  have hc1 := blk_cell h.v 1
  have hf1 := blk_frozen h.v 1
  have hm : L.length ≤ 9223372036854775807 := Kd.C_max h.C0
  have hg0 := h.g0
  have hg1 := h.g1
  obtain ⟨t, ht⟩ : ∃ t, advG L g doc = t := ⟨_, rfl⟩
  rw [ht]
  have HT := Aside0.mk ht
  clear h hR ht
  go_enter Try.func21, Try.ntmps21
  go_upto_if 9 with (fail)
  go_cut [] (fun wc => ∃ i : Nat, Aside0 (Yk w0 wc P A c L (i : Int)) ∧ Aside0 (w.grownBy wc (some P)) ∧ Aside0 (advG L (i : Int) doc = t))
  case first =>
    by_cases c5 : g < 0
    · have c5b : decide (g < 0) = true := decide_eq_true c5
      rw [c5b]
      go_wp2
      go_meet
      case rel =>
        have hz := HY.out.set 0 (by omega) (by omega)
        exact ⟨0, ⟨hz.1⟩, ⟨hz.2⟩, ⟨adv_neg HT.out (by omega) c5⟩⟩
    · have c5b : decide (g < 0) = false := decide_eq_false c5
      rw [c5b]
      go_wp2
      go_meet
      case rel =>
        obtain ⟨i, hi⟩ := Int.eq_ofNat_of_zero_le (show 0 ≤ g by omega)
        exact ⟨i, ⟨by rw [← hi]; exact HY.out⟩, ⟨grown_of_below (Below.refl _ _) _⟩, ⟨by rw [← hi]; exact HT.out⟩⟩
  case rest =>
    clear HY HT hc0 hc1 hf1
    obtain ⟨i0, HY, HG, HT⟩ := hcut
    go_wp2
    go_loopg [] (L.length - i0) (fun kq w' => ∃ i : Nat, Aside0 (Yk w0 w' P A c L (i : Int)) ∧ Aside0 (w.grownBy w' (some P)) ∧ Aside0 (advG L (i : Int) doc = t) ∧ Aside0 (L.length - i ≤ kq))
    case atStart => exact ⟨i0, HY, HG, HT, ⟨Nat.le_refl _⟩⟩
    case round =>
      clear HY HG HT
      obtain ⟨i, HY2, HG2, HT, HK⟩ := hrel
      have hc0 := blk_cell HY2.out.v 0
      have hc1 := blk_cell HY2.out.v 1
      have hf1 := blk_frozen HY2.out.v 1
      have hil : i ≤ L.length := by have := HY2.out.g1; omega
      by_cases hlt : i < L.length
      · obtain ⟨ad, A1, c1, rfl, hx0, _, _, _⟩ := at_T86 (Kd.C_below HY2.out.C0 HY2.out.bel) (i : Int) (by omega) (by omega)
        rw [Int.toNat_natCast] at hx0
        obtain ⟨dv, hdv⟩ : ∃ dv, (rd_T86 (L.map to86) (i : Int)).f0 = dv := ⟨_, rfl⟩
        have hd : docAt L (i : Int) = dv := by
          rw [docAt_n hlt rfl, ← hdv]
          unfold rd_T86 rd_T58
          rw [Int.toNat_natCast, List.getD_eq_getElem?_getD, List.getD_eq_getElem?_getD, List.getElem?_map, List.getElem?_eq_getElem hlt]
          rfl
        rw [hdv] at hx0
        have HD := Aside0.mk hd
        clear hdv hd
        have hlti : (i : Int) < (L.length : Int) := by omega
        by_cases hlv : dv < doc
        · go_wp2
          go_quiet (fail)
          revert nq
          intro n1
          go_wp2
          have hz := (HY2.out.below (pw_below_drewN (Below.refl wr.heap.size wr) n1)).set ((i : Int) + 1) (by omega) (by omega)
          go_roundg (L.length - (i + 1))
          case measure => have := HK.out; omega
          case rel => exact ⟨i + 1, ⟨hz.1⟩, ⟨grown_trans (grown_trans HG2.out (grown_of_below (pw_below_drewN (Below.refl wr.heap.size wr) n1) _)) hz.2⟩, ⟨by
            have h1 := advG_step L HR.out (i : Int) doc (by omega) (by omega) (by rw [HD.out]; exact .inl hlv)
            have h2 : nextG L (i : Int) = ((i + 1 : Nat) : Int) := by unfold nextG; rw [if_pos hlti]; rfl
            rw [← h2, h1]
            exact HT.out⟩, ⟨Nat.le_refl _⟩⟩
        · have hnn : ¬ docAt L (i : Int) < 0 := by
            have h1 := (doc_range L HR.out i hlt).1
            unfold docAt
            rw [if_neg (by omega), if_pos hlti, Int.toNat_natCast]
            omega
          have hte : (i : Int) = t := by rw [← HT.out]; exact (advG_stop L (i : Int) doc (by omega) (by omega) (by rw [HD.out]; exact hlv) hnn).symm
          have hlvd : decide (dv < doc) = false := decide_eq_false hlv
          subst hte
          clear hnn hlv
          go_wp2
          go_quiet (fail)
          revert nq
          intro n1
          go_wp2
          go_quiet (fail)
          go_wp2
          go_ret
          have HQ := pw_below_drewN (pw_below_drewN (Below.refl wr.heap.size wr) n1) nq
          exact ⟨by rw [decide_eq_true hlti]; rfl, HY2.out.below HQ, grown_trans HG2.out (grown_of_below HQ _)⟩
      · have hie : i = L.length := by omega
        have hte : (i : Int) = t := by rw [← HT.out, hie]; exact (advG_end L doc).symm
        have hltd : decide ((i : Int) < (L.length : Int)) = false := decide_eq_false (by omega)
        have hltd2 : decide (i < L.length) = false := decide_eq_false hlt
        subst hte
        clear hie
        go_wp2
        go_quiet (fail)
        revert nq
        intro n1
        go_wp2
        go_quiet (fail)
        go_wp2
        go_ret
        have HQ := pw_below_drewN (pw_below_drewN (Below.refl wr.heap.size wr) n1) nq
        exact ⟨by rw [hltd]; rfl, HY2.out.below HQ, grown_trans HG2.out (grown_of_below HQ _)⟩
end Go.Proofs.Ytimlgpfcgklddaa.P
