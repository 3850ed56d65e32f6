/-
Texts of this seat, laid together: P9.
-/
import Derived.Test.YtimlgpfcgklddaaQP2
import Derived.Test.YtimlgpfcgklddaaQP7
import Derived.Test.YtimlgpfcgklddaaQE1
namespace Go.Proofs.Ytimlgpfcgklddaa
open Go.RowKit Go.Proofs.YtimlgpfcgklddaaW.PrintWords
set_option linter.unusedVariables false
theorem Lx.grown_lt {k : IntKind} {e : TypeId} {w w1 : World} {base g : Nat} {v : Value} {xs : List Int} (h : Lx k e w base v xs) (hg : w.grownBy w1 (some g)) (hlt : g < base) : Lx k e w1 base v xs :=
  Lax.grown h hg fun k hk e => by injection e with e; have := Lax.base_le h k hk; omega
theorem Bx.grown_lt {w w1 : World} {base g : Nat} {v : Value} {ps : List Blk} (h : Bx w base v ps) (hg : w.grownBy w1 (some g)) (hlt : g < base) : Bx w1 base v ps := by
  obtain ⟨cs, h1, h2⟩ := h
  exact ⟨cs, h1.grown hg fun k hk e => by injection e with e; have := h1.base_le k hk; omega, h2.imp_ fun p c ⟨v1, e, h⟩ => ⟨v1, e, h.grown_lt hg hlt⟩⟩
theorem Qx.grown_lt {w w1 : World} {base g : Nat} {v : Value} {ps : List P.S86} (h : Qx w base v ps) (hg : w.grownBy w1 (some g)) (hlt : g < base) : Qx w1 base v ps := by
  obtain ⟨cs, h1, h2⟩ := h
  exact ⟨cs, h1.grown hg fun k hk e => by injection e with e; have := h1.base_le k hk; omega, h2.imp_ fun p c ⟨v1, e, h⟩ => ⟨v1, e, h.grown_lt hg hlt⟩⟩
/-- A list behind memory that may be written. -/
structure LstG (w : World) (B base : Nat) (bl : List Blk) (n : Int) : Prop where
  v : ∃ vb, w.heap[B]? = some (.cells #[vb, .int .i64 n] 93 (0, 0)) ∧ Bx w base vb bl
  ok : ∀ p ∈ bl, BlkOk p
  len : bl.length ≤ 16384
  ge : base ≤ B
theorem LstG.lst {w : World} {B base : Nat} {bl : List Blk} {n : Int} (h : LstG w B base bl n) : Lst w B base bl := by
  obtain ⟨vb, h1, h2⟩ := h.v
  exact ⟨⟨vb, n, h1, h2⟩, h.ok, h.len⟩
theorem LstG.grown_lt {w w1 : World} {B base g : Nat} {bl : List Blk} {n : Int} (h : LstG w B base bl n) (hg : w.grownBy w1 (some g)) (hlt : g < base) : LstG w1 B base bl n := by
  obtain ⟨vb, h1, h2⟩ := h.v
  exact ⟨⟨vb, blk_grown h1 hg (fun e => by injection e with e; have := h.ge; omega), h2.grown_lt hg hlt⟩, h.ok, h.len, h.ge⟩
theorem LstG.below {w w1 : World} {B base : Nat} {bl : List Blk} {n : Int} (h : LstG w B base bl n) (hb : Below w.heap.size w w1) : LstG w1 B base bl n := by
  obtain ⟨vb, h1, h2⟩ := h.v
  exact ⟨⟨vb, blk_below h1 hb, h2.below hb⟩, h.ok, h.len, h.ge⟩
end Go.Proofs.Ytimlgpfcgklddaa
namespace Go.Proofs.Ytimlgpfcgklddaa.P
open Go.RowKit Go.Shelf Go.Proofs.YtimlgpfcgklddaaW.PrintWords Go.Proofs.YtimlgpfcgklddaaW.PrintLast Go.Proofs.YtimlgpfcgklddaaW.PrintMore
set_option linter.unusedVariables false
set_option linter.unusedSimpArgs false
set_option maxRecDepth 100000 in
set_option maxHeartbeats 4000000 in
theorem LawOpen_calls (A : Option Addr) (bs : List Int) (c : Nat) (w : World) (h : (Kd.int .u8).C w A bs.length bs) (hc : bs.length ≤ c) (hr : ∀ x ∈ bs, 0 ≤ x ∧ x < 256) :
    Calls Try.prog 7 #[.slice A bs.length c] w fun e w' => e = .returned (.bool true) ∧ Below w.heap.size w w' := by
  have hmx := Kd.C_max h
  by_cases hl : bs.length ≤ 5000
  · have H := Aside0.mk h
    have HRB := Aside0.mk hr
    have HLe : Aside0 (Calls Try.prog 32 #[.slice A bs.length c] w fun e w' => ∃ A1 c1, e = .returned (.slice A1 bs.length c1) ∧ LentB w' w.heap.size (.slice A1 bs.length c1) bs ∧ Below w.heap.size w w') := ⟨(LentBytes_calls A bs c w h hc (by omega)).mono fun e w' ⟨v, h1, h2, h3⟩ => by
      obtain ⟨A1, c1, e1, h4⟩ := id h2
      subst e1
      exact ⟨A1, c1, h1, h2, h3⟩⟩
    have HKe : Aside0 (∀ W A1 c1, LentB W w.heap.size (.slice A1 bs.length c1) bs → Below w.heap.size w W → Calls Try.prog 34 #[.slice A1 bs.length c1, .slice A bs.length c] W fun e w' => e = .returned (.bool true) ∧ Below W.heap.size W w') := ⟨fun W A1 c1 hL hb => (KeptBytes_calls A1 A bs c1 c w.heap.size W hL (Kd.C_below h hb) hc (by omega)).mono fun e w' ⟨h1, h2⟩ => ⟨h1, h2.below⟩⟩
    cases hq : qOpen bs with
    | none =>
      have hnone : openF bs = none := by
        cases ho : openF bs with
        | none => rfl
        | some r =>
          obtain ⟨L, h1, h2⟩ := openF_sound (bl := r.1) (n := r.2) ho
          have h3 := qOpen_back L h1
          rw [h2, hq] at h3
          cases h3
      have HOp : Aside0 (∀ W A1 c1, (Kd.int .u8).C W A1 bs.length bs → bs.length ≤ c1 → Calls Try.prog 16 #[.slice A1 bs.length c1] W fun e w' => e = .returned (.tuple #[.pointer none, .int .i64 20]) ∧ Below W.heap.size W w') := ⟨fun W A1 c1 hC hc1 => (Open_calls A1 bs c1 W hC hc1 (by omega) hr).mono fun e w' ⟨h1, h2⟩ => by
        rcases h1 with ⟨_, h1⟩ | ⟨bl, n, L, vb, h1, _⟩
        · exact ⟨h1, h2⟩
        · rw [hnone] at h1; cases h1⟩
      have HRo : Aside0 (∀ W, Below w.heap.size w W → Calls Try.prog 33 #[.slice A bs.length c] W fun e w' => e = .returned (.tuple #[.slice none 0 0, .int .i64 20]) ∧ Below W.heap.size W w') := ⟨fun W hb => (ROpen_calls A bs c W (Kd.C_below h hb) hc hl hr).mono fun e w' ⟨h1, h2⟩ => by
        rcases h1 with ⟨_, h1⟩ | ⟨L, A', c', h1, _⟩
        · exact ⟨h1, h2⟩
        · rw [hq] at h1; cases h1⟩
      clear h hr hq hnone
      go_enter Try.func7, Try.ntmps7
      go_wp2_with (first
        | (go_at_call 34; ((with_reducible refine (HKe.out _ A1 c1 (HL1.out.below HB13.out) HB3.out).mono ?_)); rintro e w4 ⟨rfl, hb⟩; have HB4 := Aside0.mk (HB3.out.trans (hb.mono HB3.out.size)); have HL4 := Aside0.mk (HL1.out.below (HB13.out.trans (hb.mono HB13.out.size))); clear hb)
        | (go_at_call 33; ((with_reducible refine (HRo.out _ HB2.out).mono ?_)); rintro e w3 ⟨rfl, hb⟩; have HB3 := Aside0.mk (HB2.out.trans (hb.mono HB2.out.size)); have HB13 := Aside0.mk (HB12.out.trans (hb.mono HB12.out.size)); clear hb)
        | (go_at_call 16; ((with_reducible refine (HOp.out _ A1 c1 HC1.out hc1).mono ?_)); rintro e w2 ⟨rfl, hb⟩; have HB2 := Aside0.mk (HB1.out.trans (hb.mono HB1.out.size)); have HB12 := Aside0.mk hb; clear hb)
        | (go_at_call 32; ((with_reducible refine HLe.out.mono ?_)); rintro e w1 ⟨A1, c1, rfl, hL, hb⟩; have HL1 := Aside0.mk hL; have HB1 := Aside0.mk hb; obtain ⟨_, hc1p, hC1, _⟩ := hL.reads; have hc1 : bs.length ≤ c1 := (by omega); have HC1 := Aside0.mk hC1; clear hL hb hC1))
      obtain ⟨hlx⟩ : Aside0 (Lx .u8 5 w4 w.heap.size (.slice A1 (bs.length + 1) c1) (bs ++ [201])) := ⟨by
        obtain ⟨A', c', e, _, hx⟩ := HL4.out
        injection e with e1 _ e3
        subst e1; subst e3
        exact hx⟩
      have HLx := Aside0.mk hlx
      have HGlt : Aside0 (∀ g, (Value.slice A1 (bs.length + 1) c1).ownBlock = some g → g < w1.heap.size) := ⟨fun g hg => by
        obtain ⟨A', c', e, _, hx⟩ := HL1.out
        injection e with e1 _ e3
        subst e1; subst e3
        exact Lax.lt hx g hg⟩
      clear hlx HKe HOp HRo HC1 HL1 HL4
      go_loopg [8] bs.length (fun kq v8 w' => ∃ (i : Nat) (xs : List Int), v8 = .int .i64 (i : Int) ∧ xs.length = bs.length + 1 ∧ Aside0 (i + kq = bs.length) ∧ Aside0 (Lx .u8 5 w' w.heap.size (.slice A1 (bs.length + 1) c1) xs) ∧ Aside0 (Below w.heap.size w w'))
      case atStart => exact ⟨0, _, rfl, by rw [List.length_append, List.length_singleton], ⟨by omega⟩, HLx, HB4⟩
      case round =>
        clear HLx HB4
        obtain ⟨i, xs, rfl, hxl, hi, HL, HB⟩ := hrel
        by_cases hil : i < bs.length
        · obtain ⟨g9, rfl, hcell⟩ := Rdv.get HL.out.rdv i (by omega)
          obtain ⟨cg, hcg⟩ := Lax.typed HL.out g9 rfl
          obtain ⟨y, hy⟩ : ∃ y, xs.getD i 0 = y := ⟨_, rfl⟩
          rw [hy] at hcell
          have hcell2 : wr.cell? ((⟨g9, 0, none⟩ : Addr).add i) = some (.int .u8 y) := by rw [add_plain]; exact hcell
          have hfr := blk_frozen hcg i
          have hfr2 : wr.frozen? ((⟨g9, 0, none⟩ : Addr).add i) = false := by rw [add_plain]; exact hfr
          have hgb := Lax.base_le HL.out g9 rfl
          have hglt := HGlt.out g9 rfl
          clear hcg hy
          go_wp2
          go_roundg (bs.length - (i + 1))
          case measure => have := hi.out; omega
          case rel => exact ⟨i + 1, xs.set i _, by first | rfl | (simp; done) | (simp; unfold wrap64; omega), by rw [List.length_set]; exact hxl, ⟨by have := hi.out; omega⟩, ⟨HL.out.store i _⟩, ⟨HB.out.grown (grownBy_set wr g9 i _) HB.out.size (fun k e => by injection e with e; omega)⟩⟩
        · have hnl : ¬ (i : Int) < (bs.length : Int) := by omega
          have HSa : Aside0 (∀ W, Calls Try.prog 36 #[.slice none 0 0, .slice none 0 0] W fun e w' => e = .returned (.bool true) ∧ Below W.heap.size W w') := ⟨fun W => sameP_calls none none [] 0 0 W.heap.size W.heap.size W (PxA.nil _ _ _) (Nat.le_refl _) (Kd.C_nil _ _) (Nat.le_refl _) (by decide) (fun p hp => by cases hp)⟩
          go_wp2_with (first
            | (go_at_call 8; ((with_reducible refine (awake_calls _).mono ?_)); rintro e x9 ⟨rfl, hb⟩; have HB9 := Aside0.mk (HB7.out.trans (hb.mono HB7.out.size)); clear hb)
            | (go_at_call 36; ((with_reducible refine (HSa.out _).mono ?_)); rintro e w7 ⟨rfl, hb⟩; have HB7 := Aside0.mk (HB6.out.trans (hb.mono HB6.out.size)); clear hb)
            | (go_at_call 36; ((with_reducible refine (HSa.out _).mono ?_)); rintro e w6 ⟨rfl, hb⟩; have HB6 := Aside0.mk (HB.out.trans (hb.mono HB.out.size)); clear hb)
            | (go_at_call 37; ((with_reducible refine (PostsNil_calls _).mono ?_)); rintro e w5 ⟨rfl, rfl⟩)
            | (go_at_call 35; ((with_reducible refine (LenNil_calls _).mono ?_)); rintro e w5 ⟨rfl, rfl⟩))
          go_ret
          exact ⟨rfl, HB9.out⟩
    | some L =>
      have hs := qOpen_sound hq
      have hop : openF bs = some (blksOf L, L.length) := by rw [← hs.2]; exact openF_back L hs.1
      have hlen := rightB_len hs.1
      have HRi := Aside0.mk hs.1
      have HLL := Aside0.mk (show L.length ≤ 16384 from hlen)
      have HOp : Aside0 (∀ W A1 c1, (Kd.int .u8).C W A1 bs.length bs → bs.length ≤ c1 → Calls Try.prog 16 #[.slice A1 bs.length c1] W fun e w' => ∃ B, e = .returned (.tuple #[.pointer (some ⟨B, 0, none⟩), .int .i64 0]) ∧ LstG w' B W.heap.size (blksOf L) L.length ∧ Below W.heap.size W w') := ⟨fun W A1 c1 hC hc1 => (Open_calls A1 bs c1 W hC hc1 (by omega) hr).mono fun e w' ⟨h1, h2⟩ => by
        rcases h1 with ⟨h1, _⟩ | ⟨bl, n, B, vb, h1, h3, h4, h5, h6⟩
        · rw [hop] at h1; cases h1
        · rw [hop] at h1
          injection h1 with h1
          injection h1 with e1 e2
          subst e1; subst e2
          exact ⟨B, h3, ⟨⟨vb, h5, h6⟩, blk_ok L hs.1, by rw [blks_len]; omega, h4⟩, h2⟩⟩
      have HRo : Aside0 (∀ W, Below w.heap.size w W → Calls Try.prog 33 #[.slice A bs.length c] W fun e w' => ∃ A2 c2, e = .returned (.tuple #[.slice A2 L.length c2, .int .i64 0]) ∧ L.length ≤ c2 ∧ Qx w' W.heap.size (.slice A2 L.length c2) (L.map to86) ∧ Below W.heap.size W w') := ⟨fun W hb => (ROpen_calls A bs c W (Kd.C_below h hb) hc hl hr).mono fun e w' ⟨h1, h2⟩ => by
        rcases h1 with ⟨h1, _⟩ | ⟨L', A', c', h1, h3, h4, h5⟩
        · rw [hq] at h1; cases h1
        · rw [hq] at h1
          injection h1 with h1
          subst h1
          exact ⟨A', c', h3, h4, h5, h2⟩⟩
      clear h hr hq hs hop hlen
      go_enter Try.func7, Try.ntmps7
      go_wp2_with (first
        | (go_at_call 34; ((with_reducible refine (HKe.out _ A1 c1 (HL1.out.below HB13.out) HB3.out).mono ?_)); rintro e w4 ⟨rfl, hb⟩; have HB4 := Aside0.mk (HB3.out.trans (hb.mono HB3.out.size)); have HL4 := Aside0.mk (HL1.out.below (HB13.out.trans (hb.mono HB13.out.size))); have HLst := Aside0.mk (HLst3.out.below hb); have HQx := Aside0.mk ((HQx3.out.below hb).lower HB12.out.size); have HSZ4 := Aside0.mk (Nat.le_trans HB13.out.size hb.size); clear hb)
        | (go_at_call 33; ((with_reducible refine (HRo.out _ HB2.out).mono ?_)); rintro e w3 ⟨A2, c2, rfl, hc2, hq3, hb⟩; have HQx3 := Aside0.mk hq3; have HLst3 := Aside0.mk (HLst2.out.below hb); have HB3 := Aside0.mk (HB2.out.trans (hb.mono HB2.out.size)); have HB13 := Aside0.mk (HB12.out.trans (hb.mono HB12.out.size)); clear hb hq3)
        | (go_at_call 16; ((with_reducible refine (HOp.out _ A1 c1 HC1.out hc1).mono ?_)); rintro e w2 ⟨B, rfl, hlst, hb⟩; have HLst2 := Aside0.mk hlst; have HB2 := Aside0.mk (HB1.out.trans (hb.mono HB1.out.size)); have HB12 := Aside0.mk hb; clear hb hlst)
        | (go_at_call 32; ((with_reducible refine HLe.out.mono ?_)); rintro e w1 ⟨A1, c1, rfl, hL, hb⟩; have HL1 := Aside0.mk hL; have HB1 := Aside0.mk hb; obtain ⟨_, hc1p, hC1, _⟩ := hL.reads; have hc1 : bs.length ≤ c1 := (by omega); have HC1 := Aside0.mk hC1; clear hL hb hC1))
      clear HQx3 HLst3 HLst2 HB12 HB13 HB3 HB2
      obtain ⟨hlx⟩ : Aside0 (Lx .u8 5 w4 w.heap.size (.slice A1 (bs.length + 1) c1) (bs ++ [201])) := ⟨by
        obtain ⟨A', c', e, _, hx⟩ := HL4.out
        injection e with e1 _ e3
        subst e1; subst e3
        exact hx⟩
      have HLx := Aside0.mk hlx
      have HGlt : Aside0 (∀ g, (Value.slice A1 (bs.length + 1) c1).ownBlock = some g → g < w1.heap.size) := ⟨fun g hg => by
        obtain ⟨A', c', e, _, hx⟩ := HL1.out
        injection e with e1 _ e3
        subst e1; subst e3
        exact Lax.lt hx g hg⟩
      clear hlx HKe HOp HRo HC1 HL1 HL4
      go_loopg [8] bs.length (fun kq v8 w' => ∃ (i : Nat) (xs : List Int), v8 = .int .i64 (i : Int) ∧ xs.length = bs.length + 1 ∧ Aside0 (i + kq = bs.length) ∧ Aside0 (Lx .u8 5 w' w.heap.size (.slice A1 (bs.length + 1) c1) xs) ∧ Aside0 (Below w.heap.size w w') ∧ Aside0 (LstG w' B w1.heap.size (blksOf L) L.length) ∧ Aside0 (Qx w' w1.heap.size (.slice A2 L.length c2) (L.map to86)) ∧ Aside0 (w1.heap.size ≤ w'.heap.size))
      case atStart => exact ⟨0, _, rfl, by rw [List.length_append, List.length_singleton], ⟨by omega⟩, HLx, HB4, HLst, HQx, HSZ4⟩
      case round =>
        clear HLx HB4 HLst HQx HSZ4
        obtain ⟨i, xs, rfl, hxl, hi, HL, HB, HLst, HQx, HSZ⟩ := hrel
        by_cases hil : i < bs.length
        · obtain ⟨g9, rfl, hcell⟩ := Rdv.get HL.out.rdv i (by omega)
          obtain ⟨cg, hcg⟩ := Lax.typed HL.out g9 rfl
          obtain ⟨y, hy⟩ : ∃ y, xs.getD i 0 = y := ⟨_, rfl⟩
          rw [hy] at hcell
          have hcell2 : wr.cell? ((⟨g9, 0, none⟩ : Addr).add i) = some (.int .u8 y) := by rw [add_plain]; exact hcell
          have hfr := blk_frozen hcg i
          have hfr2 : wr.frozen? ((⟨g9, 0, none⟩ : Addr).add i) = false := by rw [add_plain]; exact hfr
          have hgb := Lax.base_le HL.out g9 rfl
          have hglt := HGlt.out g9 rfl
          clear hcg hy
          go_wp2
          go_roundg (bs.length - (i + 1))
          case measure => have := hi.out; omega
          case rel => exact ⟨i + 1, xs.set i _, by first | rfl | (simp; done) | (simp; unfold wrap64; omega), by rw [List.length_set]; exact hxl, ⟨by have := hi.out; omega⟩, ⟨HL.out.store i _⟩, ⟨HB.out.grown (grownBy_set wr g9 i _) HB.out.size (fun k e => by injection e with e; omega)⟩, ⟨HLst.out.grown_lt (grownBy_set wr g9 i _) hglt⟩, ⟨HQx.out.grown_lt (grownBy_set wr g9 i _) hglt⟩, ⟨Nat.le_trans HSZ.out (grownBy_set wr g9 i _).size⟩⟩
        · have hnl : ¬ (i : Int) < (bs.length : Int) := by omega
          obtain ⟨A', c', e5, _, hC5⟩ := HQx.out.reads
          rw [List.length_map] at e5 hC5
          injection e5 with e5 _ e6
          subst e5; subst e6
          have HC5 := Aside0.mk hC5
          obtain ⟨vb, hbk, _⟩ := HLst.out.v
          have HLn : Aside0 (Calls Try.prog 35 #[.pointer (some ⟨B, 0, none⟩)] wr fun e w' => e = .returned (.int .i64 (L.length : Int)) ∧ wr = w') := ⟨(Len_calls B vb L.length wr hbk).mono fun e w' ⟨h1, h2⟩ => ⟨h1, h2.symm⟩⟩
          have HPo : Aside0 (∀ W, Below wr.heap.size wr W → Calls Try.prog 37 #[.pointer (some ⟨B, 0, none⟩)] W fun e w' => ∃ A6 c6, e = .returned (.slice A6 L.length c6) ∧ PxA w'.heap.size w' W.heap.size (.slice A6 L.length c6) L ∧ Below W.heap.size W w') := ⟨fun W hW => (Posts_calls B w1.heap.size (blksOf L) W ((HLst.out.below hW).lst) (Nat.le_trans HSZ.out hW.size)).mono fun e w' ⟨v, h1, h2, h3⟩ => by
            rw [posts_blks L HRi.out] at h2
            obtain ⟨A6, c6, e6, _⟩ := h2.px.reads
            subst e6
            exact ⟨A6, c6, h1, h2, h3⟩⟩
          have HSa : Aside0 (∀ (W0 W : World) A6 c6, W0.heap.size ≤ W.heap.size → Below wr.heap.size wr W → PxA W.heap.size W W0.heap.size (.slice A6 L.length c6) L → Calls Try.prog 36 #[.slice A6 L.length c6, .slice A2 L.length c2] W fun e w' => e = .returned (.bool true) ∧ Below W0.heap.size W w') := ⟨fun W0 W A6 c6 hs hW hp => sameP_calls A6 A2 L c6 c2 W0.heap.size W.heap.size W hp hs (Kd.C_below HC5.out hW) hc2 HLL.out (fun p hp => rightB_pos HRi.out p hp)⟩
          clear hbk hC5
          go_wp2_with (first
            | (go_at_call 8; ((with_reducible refine (awake_calls _).mono ?_)); rintro e x9 ⟨rfl, hb⟩; have HZ9 := Aside0.mk (HZ8.out.trans (hb.mono HZ8.out.size)); clear hb)
            | (go_at_call 36; ((with_reducible refine (HSa.out w6 _ A7 c7 HZ67.out.size HZ7.out HP7.out).mono ?_)); rintro e w8 ⟨rfl, hb⟩; have HZ8 := Aside0.mk (HZ7.out.trans (hb.mono HZ6.out.size)); clear hb)
            | (go_at_call 37; ((with_reducible refine (HPo.out _ HZ6.out).mono ?_)); rintro e w7 ⟨A7, c7, rfl, hp, hb⟩; have HP7 := Aside0.mk hp; have HZ67 := Aside0.mk hb; have HZ7 := Aside0.mk (HZ6.out.trans (hb.mono HZ6.out.size)); clear hp hb)
            | (go_at_call 36; ((with_reducible refine (HSa.out wr _ A6 c6 HZ5.out.size HZ5.out HP5.out).mono ?_)); rintro e w6 ⟨rfl, hb⟩; have HZ6 := Aside0.mk (HZ5.out.trans hb); clear hb)
            | (go_at_call 37; ((with_reducible refine (HPo.out _ (Below.refl _ _)).mono ?_)); rintro e w5 ⟨A6, c6, rfl, hp, hb⟩; have HP5 := Aside0.mk hp; have HZ5 := Aside0.mk hb; clear hp hb)
            | (go_at_call 35; ((with_reducible refine HLn.out.mono ?_)); rintro e w5 ⟨rfl, rfl⟩))
          go_ret
          exact ⟨rfl, HB.out.trans (HZ9.out.mono HB.out.size)⟩
  · have hg : (bs.length : Int) > 5000 := by omega
    clear h
    go_enter Try.func7, Try.ntmps7
    go_wp2_with (go_at_call 8; ((with_reducible refine (awake_calls _).mono ?_)); rintro e x9 ⟨rfl, hb⟩; have HB9 := Aside0.mk hb; clear hb)
    go_ret
    exact ⟨rfl, HB9.out⟩
end Go.Proofs.Ytimlgpfcgklddaa.P
