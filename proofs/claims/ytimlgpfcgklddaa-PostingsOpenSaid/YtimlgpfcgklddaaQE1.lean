/-
Texts of this seat, laid together: E1.
-/
import Derived.Test.YtimlgpfcgklddaaQP7
import Derived.Test.YtimlgpfcgklddaaQD6
import Derived.Test.YtimlgpfcgklddaaQD11
namespace Go.Proofs.Ytimlgpfcgklddaa.P
open Go.RowKit Go.Shelf Go.Proofs.YtimlgpfcgklddaaW.PrintWords Go.Proofs.YtimlgpfcgklddaaW.PrintLast Go.Proofs.YtimlgpfcgklddaaW.PrintMore
set_option linter.unusedVariables false
set_option linter.unusedSimpArgs false
set_option maxRecDepth 100000 in
set_option maxHeartbeats 2000000 in
theorem awake_calls (w : World) : Calls Try.prog 8 #[] w fun e w' => e = .returned (.bool true) ∧ Below w.heap.size w w' := by
  have HBu : Aside0 (∀ W A c, Kd.C k58 W A givenL.length givenL → givenL.length ≤ c → Calls Try.prog 10 #[.slice A givenL.length c] W fun e w' => ∃ v, e = .returned (.tuple #[v, .int .i64 0]) ∧ Lx .u8 5 w' W.heap.size v formL ∧ Below W.heap.size W w') := ⟨fun W A c hC hc => by
    have := Build_calls A givenL c W hC hc 10 (by decide) (by decide) (by decide)
    rw [given_right, given_form] at this
    exact this.mono fun e w' ⟨v, h1, h2, _, h3⟩ => ⟨v, h1, h2, h3⟩⟩
  have HOp : Aside0 (∀ W A c, (Kd.int .u8).C W A formL.length formL → formL.length ≤ c → Calls Try.prog 16 #[.slice A formL.length c] W fun e w' => ∃ L, e = .returned (.tuple #[.pointer (some ⟨L, 0, none⟩), .int .i64 0]) ∧ Lst w' L W.heap.size blL ∧ Below W.heap.size W w') := ⟨fun W A c hC hc => by
    have := Open_calls A formL c W hC hc (by decide) (by decide)
    rw [form_open] at this
    refine this.mono fun e w' ⟨h, hb⟩ => ?_
    rcases h with ⟨h, _⟩ | ⟨bl, n, L, vb, h, he, _, hL, hx⟩
    · cases h
    · injection h with h
      injection h with h1 h2
      subst h1; subst h2
      exact ⟨L, he, ⟨⟨vb, _, hL, hx⟩, bl_ok, by decide⟩, hb⟩⟩
  obtain ⟨fl, hfl⟩ : ∃ fl, formL = fl := ⟨_, rfl⟩
  have HF39 : Aside0 (∀ W, Calls Try.prog 39 #[] W fun e w' => ∃ A c, e = .returned (.slice A fl.length c) ∧ fl.length ≤ c ∧ Kd.C (Kd.int .u8) w' A fl.length fl ∧ Below W.heap.size W w') := ⟨fun W => by
    refine (lecternlaw10_form.calls formL W rfl).mono ?_
    rintro e w' ⟨v, rfl, h1, h2⟩
    obtain ⟨A, c, rfl⟩ := Kd.R_slice h1
    have h3 := Kd.R_reads' h1
    rw [hfl] at h3 ⊢
    exact ⟨A, c, rfl, h3.2.1, h3.2.2, h2⟩⟩
  rw [hfl] at HBu HOp
  have HG38 : Aside0 (∀ W, Calls Try.prog 38 #[] W fun e w' => ∃ A c, e = .returned (.slice A givenL.length c) ∧ givenL.length ≤ c ∧ Kd.C k58 w' A givenL.length givenL ∧ Below W.heap.size W w') := ⟨fun W => by
    refine (lecternlaw10_given.calls givenL W rfl).mono ?_
    rintro e w' ⟨v, rfl, h1, h2⟩
    obtain ⟨A, c, rfl, hc, hC⟩ := Kd.N_reads h1
    exact ⟨A, c, rfl, hc, hC, h2⟩⟩
  obtain ⟨gl, hgl⟩ : ∃ gl, givenL = gl := ⟨_, rfl⟩
  rw [hgl] at HBu HG38
  have HB13 : Aside0 (∀ W A0 A1 c0 c1, (Kd.int .u8).C W A0 fl.length fl → fl.length ≤ c0 → (Kd.int .u8).C W A1 fl.length fl → fl.length ≤ c1 → Calls Try.prog 13 #[.slice A0 fl.length c0, .slice A1 fl.length c1] W fun e w' => e = .returned (.bool true) ∧ Drawn0 W w') := ⟨fun W A0 A1 c0 c1 h0 hc0 h1 hc1 => (Bytes13_calls A0 A1 c0 c1 fl fl W h0 hc0 h1 hc1).mono fun e w' h => ⟨by rw [h.1, decide_eq_true rfl], h.2⟩⟩
  clear hfl hgl
  go_enter Try.func8, Try.ntmps8
  go_wp2_with (first
    | (go_at_call 24; ((with_reducible refine (Doc_calls _ _ _ blL st3 _ HI4.out).mono ?_)); rw [doc3]; rintro e x10 ⟨rfl, hd⟩; have HBZ := Aside0.mk (HB9.out.trans (hd.below.mono HB9.out.size)); clear hd)
    | (go_at_call 18; ((with_reducible refine (Next_calls _ _ _ blL st2 _ HI3.out HSZ8.out).mono ?_)); rw [go4]; rintro e x9 ⟨rfl, hi, hg⟩; have HI4 := Aside0.mk hi; have HB9 := Aside0.mk (HB8.out.grown hg HB8.out.size (fun k e => by injection e with e; have := HIL.out; omega)); clear hi hg)
    | (go_at_call 20; ((with_reducible refine (Adv_calls _ _ _ blL st2 4 _ HI2b.out HSZ7.out).mono ?_)); rw [go3]; rintro e x8 ⟨rfl, hi, hg⟩; have HI3 := Aside0.mk hi; have HSZ8 := Aside0.mk (Nat.le_trans HSZ7.out hg.size); have HB8 := Aside0.mk (HB7.out.grown hg HB7.out.size (fun k e => by injection e with e; have := HIL.out; omega)); clear hi hg)
    | (go_at_call 24; ((with_reducible refine (Doc_calls _ _ _ blL st2 _ HI2.out).mono ?_)); rw [doc2]; rintro e x7 ⟨rfl, hd⟩; have HI2b := Aside0.mk (HI2.out.below hd.below); have HSZ7 := Aside0.mk (Nat.le_trans HSZ6.out hd.below.size); have HB7 := Aside0.mk (HB6.out.trans (hd.below.mono HB6.out.size)); clear hd)
    | (go_at_call 20; ((with_reducible refine (Adv_calls _ _ _ blL st1 3 _ HI1c.out HSZ5.out).mono ?_)); rw [go2]; rintro e x6 ⟨rfl, hi, hg⟩; have HI2 := Aside0.mk hi; have HSZ6 := Aside0.mk (Nat.le_trans HSZ5.out hg.size); have HB6 := Aside0.mk (HB5.out.grown hg HB5.out.size (fun k e => by injection e with e; have := HIL.out; omega)); clear hi hg)
    | (go_at_call 26; ((with_reducible refine (Freq_calls _ _ _ blL st1 _ HI1b.out).mono ?_)); rw [freq1]; rintro e x5 ⟨rfl, hd⟩; have HI1c := Aside0.mk (HI1b.out.below hd.below); have HSZ5 := Aside0.mk (Nat.le_trans HSZ4.out hd.below.size); have HB5 := Aside0.mk (HB4.out.trans (hd.below.mono HB4.out.size)); clear hd)
    | (go_at_call 24; ((with_reducible refine (Doc_calls _ _ _ blL st1 _ HI1.out).mono ?_)); rw [doc1]; rintro e x4 ⟨rfl, hd⟩; have HI1b := Aside0.mk (HI1.out.below hd.below); have HSZ4 := Aside0.mk (Nat.le_trans HSZ3.out hd.below.size); have HB4 := Aside0.mk (HB3.out.trans (hd.below.mono HB3.out.size)); clear hd)
    | (go_at_call 18; ((with_reducible refine (Next_calls _ _ _ blL st0 _ HI0c.out HSZ2.out).mono ?_)); rw [go1]; rintro e x3 ⟨rfl, hi, hg⟩; have HI1 := Aside0.mk hi; have HSZ3 := Aside0.mk (Nat.le_trans HSZ2.out hg.size); have HB3 := Aside0.mk (HB2.out.grown hg HB2.out.size (fun k e => by injection e with e; have := HIL.out; omega)); clear hi hg)
    | (go_at_call 13; ((with_reducible refine (HB13.out _ Af Ae cf ce (Kd.C_below HCf.out HBfe.out) hcf HCe.out hce).mono ?_)); rintro e x2 ⟨rfl, hd⟩; have HI0c := Aside0.mk (HI0b.out.below hd.below); have HSZ2 := Aside0.mk (Nat.le_trans HSZ1.out hd.below.size); have HB2 := Aside0.mk (HB1.out.trans (hd.below.mono HB1.out.size)); clear hd)
    | (go_at_call 39; ((with_reducible refine (HF39.out _).mono ?_)); rintro e x1 ⟨Ae, ce, rfl, hce, hCe, hb⟩; have HCe := Aside0.mk hCe; have HI0b := Aside0.mk (HI0.out.below hb); have HSZ1 := Aside0.mk (Nat.le_trans HSZ0.out hb.size); have HB1 := Aside0.mk (HB0.out.trans (hb.mono HB0.out.size)); have HBfe := Aside0.mk (HBf3.out.trans (hb.mono HBf3.out.size)); clear hCe hb)
    | (go_at_call 17; ((with_reducible refine (Iter_calls _ _ blL _ HLs.out HBo.out.size).mono ?_)); rintro e x0 ⟨rfl, hi, hb⟩; have HI0 := Aside0.mk hi; have HIL := Aside0.mk (show w.heap.size ≤ y3.heap.size from HBy3.out.size); have HSZ0 := Aside0.mk (Nat.le_trans HBo.out.size hb.size); have HB0 := Aside0.mk (HBy3.out.trans (hb.mono HBy3.out.size)); have HBf3 := Aside0.mk (HBo.out.trans (hb.mono HBo.out.size)); clear hi hb)
    | (go_at_call 16; ((with_reducible refine (HOp.out _ Af cf HCf.out hcf).mono ?_)); rintro e y3 ⟨L, rfl, hl, hb⟩; have HLs := Aside0.mk hl; have HBo := Aside0.mk hb; have HBy3 := Aside0.mk (HBy2.out.trans (hb.mono HBy2.out.size)); clear hl hb)
    | (go_at_call 10; ((with_reducible refine (HBu.out _ Ag cg HCg.out hcg).mono ?_)); rintro e y2 ⟨v2, rfl, hf, hb⟩; obtain ⟨Af, cf, rfl, hcf, hCf⟩ := hf.reads; have HCf := Aside0.mk hCf; have HBy2 := Aside0.mk (HBy1.out.trans (hb.mono HBy1.out.size)); clear hf hb hCf)
    | (go_at_call 38; ((with_reducible refine (HG38.out _).mono ?_)); rintro e y1 ⟨Ag, cg, rfl, hcg, hCg, hb⟩; have HCg := Aside0.mk hCg; have HBy1 := Aside0.mk hb; clear hCg hb))
  go_ret
  exact ⟨rfl, HBZ.out⟩
end Go.Proofs.Ytimlgpfcgklddaa.P
