/-
Texts of this seat, laid together: D11.
-/
import Derived.Test.YtimlgpfcgklddaaQP2
namespace Go.Proofs.Ytimlgpfcgklddaa.P
open Go.RowKit Go.Shelf Go.Proofs.YtimlgpfcgklddaaW.PrintWords Go.Proofs.YtimlgpfcgklddaaW.PrintLast Go.Proofs.YtimlgpfcgklddaaW.PrintMore
set_option linter.unusedVariables false
set_option linter.unusedSimpArgs false
theorem Itr_set_nx {w : World} {I L base : Nat} {bl : List Blk} {s : ISt} (h : Itr w I base L bl s) (i : Nat) (hi : i ≤ 1073741824) :
    Itr (w.setCell ⟨I, 3, none⟩ (.int .i64 (i : Int))) I base L bl { s with nx := i } ∧ w.grownBy (w.setCell ⟨I, 3, none⟩ (.int .i64 (i : Int))) (some I) := by
  obtain ⟨vp, h1, h2⟩ := h.v
  have hg := grownBy_set w I 3 (.int .i64 (i : Int))
  exact ⟨⟨⟨vp, blk_set h1 3 _, h2.grown hg (fun k c e hk => by injection e with e; subst e; exact block_ne h1 hk (by decide)) (fun k c e hk => by injection e with e; subst e; exact block_ne h1 hk (by decide))⟩, h.l.keep h1 hg, h.at0, hi, h.plen⟩, hg⟩
set_option maxRecDepth 100000 in
set_option maxHeartbeats 4000000 in
theorem Adv_calls (I base L : Nat) (bl : List Blk) (s : ISt) (doc : Int) (w : World) (h : Itr w I base L bl s) (hbase : base ≤ w.heap.size) :
    Calls Try.prog 20 #[.pointer (some ⟨I, 0, none⟩), .int .i64 doc] w fun e w' => e = .returned (.bool (advF bl s doc).1) ∧ Itr w' I base L bl (advF bl s doc).2 ∧ w.grownBy w' (some I) := by
  obtain ⟨R, hR⟩ : ∃ R, advF bl s doc = R := ⟨_, rfl⟩
  rw [hR]
  have HI := Aside0.mk h
  obtain ⟨vp, h1, h2⟩ := h.v
  obtain ⟨A, c, rfl, hc, hC⟩ := h2.reads
  have hm := Kd.C_max hC
  have hc0 := blk_cell h1 0
  have hc1 := blk_cell h1 1
  have hpl := h.plen
  have hbl := h.l.len
  by_cases hh : s.here
  · have HH := Aside0.mk (here_drew I base L bl s w h true (decide_eq_true hh))
    have h0 : 0 ≤ s.at' := hh.1
    have hla : s.at' < s.posts.length := hh.2
    obtain ⟨posts, at_, nx⟩ := s
    dsimp only at hm hc hc0 hc1 hpl h0 hla hC
    obtain ⟨i0, rfl⟩ := Int.eq_ofNat_of_zero_le h0
    obtain ⟨m, hmm⟩ : ∃ m, posts.length = m + 1 := ⟨posts.length - 1, by omega⟩
    obtain ⟨ad, A1, c1, rfl, hx0, hx1, hl1, hC1⟩ := at_T58 hC (m : Int) (by omega) (by omega)
    rw [Int.toNat_natCast] at hx0
    have hge : rd_T58 posts (m : Int) = posts.getD (posts.length - 1) z58 := by unfold rd_T58; rw [Int.toNat_natCast, hmm]; rfl
    rw [hge] at hx0
    obtain ⟨fl, hfl⟩ : ∃ fl, (posts.getD (posts.length - 1) z58).f0 = fl := ⟨_, rfl⟩
    rw [hfl] at hx0
    have HM := Aside0.mk hmm
    have hml : (posts.length : Int) - 1 = (m : Int) := by omega
    have hml2 : (m : Int) < (posts.length : Int) := by omega
    clear hC hC1 hx1 hl1 hge h h1 h2
    by_cases hld : fl < doc
    · have HR : Aside0 (R = if (loadF bl ⟨posts, (i0 : Int), skipN bl nx doc⟩).1 = true then (true, { (loadF bl ⟨posts, (i0 : Int), skipN bl nx doc⟩).2 with at' := seekN (loadF bl ⟨posts, (i0 : Int), skipN bl nx doc⟩).2.posts 0 doc }) else (false, (loadF bl ⟨posts, (i0 : Int), skipN bl nx doc⟩).2)) := ⟨by rw [← hR]; unfold advF; rw [if_neg (fun e => e.2 (by rw [hfl]; exact hld))]⟩
      clear hR hh hfl
      go_enter Try.func20, Try.ntmps20
      go_wp2
      go_big_quiet (first | (go_at_call 57; ((with_reducible refine (HH.out _).mono ?_)); rintro e w6 ⟨rfl, kd, rfl⟩; exact ⟨rfl, _, rfl⟩))
      go_wp2
      have HI2 := Aside0.mk (HI.out.below (pw_below_drewN (Below.refl w.heap.size w) nq))
      have HG2 := Aside0.mk (grown_of_below (pw_below_drewN (Below.refl w.heap.size w) nq) (some I))
      obtain ⟨tg, htg⟩ : ∃ tg, skipN bl nx doc = tg := ⟨_, rfl⟩
      rw [htg] at HR
      have HT := Aside0.mk htg
      clear htg hx0 hc0 hc1
      go_loopg [] bl.length (fun kq w' => ∃ i : Nat, Aside0 (Itr w' I base L bl ⟨posts, (i0 : Int), i⟩) ∧ Aside0 (w.grownBy w' (some I)) ∧ Aside0 (skipN bl i doc = tg) ∧ Aside0 (bl.length - i ≤ kq))
      case atStart => exact ⟨nx, HI2, HG2, HT, ⟨by omega⟩⟩
      case round =>
        clear HI2 HG2 HT
        obtain ⟨i, HI2, HG2, HT, HK⟩ := hrel
        obtain ⟨vq, hb1, hb2⟩ := HI2.out.v
        obtain ⟨vb, nn, hb3, hb4⟩ := HI2.out.l.v
        obtain ⟨Ab, cb, rfl, hcb⟩ := Bx.slice hb4
        have hd2 := blk_cell hb1 2
        have hd3 := blk_cell hb1 3
        have hdf := blk_frozen hb1 3
        have hl0 := blk_cell hb3 0
        have hnx : i ≤ 1073741824 := HI2.out.nx
        by_cases hlt : i < bl.length
        · obtain ⟨aq, A2, c2, p, rfl, hp, hx0, hx1, hx2, hx3, hlp, hCp⟩ := Bx.at_ hb4 i hlt
          obtain ⟨pl, hple⟩ : ∃ pl, p.last = pl := ⟨_, rfl⟩
          rw [hple] at hx2
          have HP := Aside0.mk hp
          have HPL := Aside0.mk hple
          clear hb1 hb2 hb3 hb4 hp hple hx0 hx1 hx3 hCp hlp
          by_cases hpd : pl < doc
          · go_wp2
            go_quiet (fail)
            go_wp2
            have hz := Itr_set_nx (HI2.out.below (pw_below_drewN (Below.refl _ _) nq)) (i + 1) (by omega)
            go_roundg (bl.length - (i + 1))
            case measure => have := HK.out; omega
            case rel => exact ⟨i + 1, ⟨by simpa using hz.1⟩, ⟨grown_trans (grown_trans HG2.out (grown_of_below (pw_below_drewN (Below.refl _ _) nq) _)) (by simpa using hz.2)⟩, ⟨by rw [← HT.out]; exact skip_step HP.out (by rw [HPL.out]; exact hpd)⟩, ⟨Nat.le_refl _⟩⟩
          · have hit : i = tg := by rw [← HT.out]; exact (skip_stop HP.out (by rw [HPL.out]; exact hpd)).symm
            subst hit
            have hpk := HI2.out.l.ok p (List.mem_of_getElem? HP.out)
            have hlast := postsF_last hpk.ok hpk.n1
            have hlf : loadF bl ⟨posts, (i0 : Int), i⟩ = (true, ⟨(postsF p.b p.ahead p.last p.n).1, 0, i + 1⟩) := by unfold loadF; dsimp only; rw [HP.out]
            rw [hlf] at HR
            have HLd : Aside0 (∀ k, Calls Try.prog 58 #[.pointer (some ⟨I, 0, none⟩)] (wr.drewN k) fun e w' => e = .returned (.bool true) ∧ Itr w' I base L bl ⟨(postsF p.b p.ahead p.last p.n).1, 0, i + 1⟩ ∧ (wr.drewN k).grownBy w' (some I)) := ⟨fun k => by
              have := load_calls I base L bl ⟨posts, (i0 : Int), i⟩ (wr.drewN k) (HI2.out.below (pw_below_drewN (Below.refl _ _) k)) (Nat.le_trans hbase HG2.out.size)
              rw [hlf] at this
              exact this⟩
            rw [HPL.out] at hlast
            obtain ⟨ps, hps⟩ : ∃ ps, (postsF p.b p.ahead p.last p.n).1 = ps := ⟨_, rfl⟩
            rw [HPL.out] at hps
            rw [HPL.out, hps] at HR HLd
            rw [hps] at hlast
            have hR2 := HR.out
            rw [if_pos rfl] at hR2
            dsimp only at hR2
            obtain ⟨tg, htg⟩ : ∃ tg, seekN ps 0 doc = tg := ⟨_, rfl⟩
            rw [htg] at hR2
            have HR3 := Aside0.mk hR2
            have HT3 := Aside0.mk htg
            have hpne : 0 < ps.length := by
              rcases Nat.eq_zero_or_pos ps.length with h | h
              · exact absurd (List.eq_nil_of_length_eq_zero h) hlast.1
              · exact h
            have HEX3 : Aside0 (∃ j, 0 ≤ j ∧ j < ps.length ∧ doc ≤ (ps.getD j z58).f0) := ⟨⟨ps.length - 1, by omega, by omega, by rw [hlast.2]; omega⟩⟩
            have hpdd : decide (pl < doc) = false := decide_eq_false hpd
            clear hR2 htg hps hlf hlast hpk HR HT hpd
            go_wp2
            go_quiet (fail)
            go_wp2_with (go_at_call 58; ((with_reducible refine (HLd.out _).mono ?_)); rintro e w7 ⟨rfl, hi7, hg7⟩; have HI7 := Aside0.mk hi7; have HG7 := Aside0.mk (grown_trans (grown_trans HG2.out (grown_of_below (pw_below_drewN (Below.refl _ _) _) _)) hg7); clear hi7 hg7)
            clear HI2 HG2 HLd hd2 hd3 hdf hl0 hx2
            have HR := HR3
            have HT := HT3
            have HEX := HEX3
            have HI2 := HI7
            have HG2 := HG7
            clear HR3 HT3 HEX3 HI7 HG7
            obtain ⟨nx2, hn2⟩ : ∃ nx2, i + 1 = nx2 := ⟨_, rfl⟩
            rw [hn2] at HR HI2
            clear hn2
            go_loopg [] ps.length (fun kq w' => ∃ i : Nat, Aside0 (Itr w' I base L bl ⟨ps, (i : Int), nx2⟩) ∧ Aside0 (w.grownBy w' (some I)) ∧ Aside0 (seekN ps i doc = tg) ∧ Aside0 (∃ j, i ≤ j ∧ j < ps.length ∧ doc ≤ (ps.getD j z58).f0) ∧ Aside0 (ps.length - i ≤ kq))
            case atStart => exact ⟨0, HI2, HG2, HT, HEX, ⟨by omega⟩⟩
            case round =>
              clear HI2 HG2 HT HEX
              obtain ⟨i, HI2, HG2, HT, HEX, HK⟩ := hrel
              have hi : i < ps.length := by obtain ⟨j, h1, h2, _⟩ := HEX.out; omega
              obtain ⟨vq, hb1, hb2⟩ := HI2.out.v
              obtain ⟨Aq, cq, rfl, hcq, hCq⟩ := hb2.reads
              dsimp only at hCq hcq
              obtain ⟨aq, A2, c2, rfl, hy0, hy1, hl2, hC2⟩ := at_T58 hCq (i : Int) (by omega) (by omega)
              rw [Int.toNat_natCast] at hy0
              have hge : rd_T58 ps (i : Int) = ps.getD i z58 := by unfold rd_T58; rw [Int.toNat_natCast]
              rw [hge] at hy0
              obtain ⟨fi, hfi⟩ : ∃ fi, (ps.getD i z58).f0 = fi := ⟨_, rfl⟩
              rw [hfi] at hy0
              have HFI := Aside0.mk hfi
              have hd0 := blk_cell hb1 0
              have hd1 := blk_cell hb1 1
              have hdf := blk_frozen hb1 1
              have hplq : ps.length ≤ 1048576 := HI2.out.plen
              clear hb1 hb2 hCq hC2 hy1 hl2 hge hfi
              by_cases hlt : fi < doc
              · go_wp2
                go_quiet (fail)
                go_wp2
                have hz := Itr_set1 (HI2.out.below (pw_below_drewN (Below.refl _ _) nq)) ((i : Int) + 1) (by omega)
                go_roundg (ps.length - (i + 1))
                case measure => have := HK.out; omega
                case rel => exact ⟨i + 1, ⟨hz.1⟩, ⟨grown_trans (grown_trans HG2.out (grown_of_below (pw_below_drewN (Below.refl _ _) nq) _)) hz.2⟩, ⟨by rw [← HT.out]; exact seek_step hi (by rw [HFI.out]; omega)⟩, ⟨by
                  obtain ⟨j, h1, h2, h3⟩ := HEX.out
                  refine ⟨j, ?_, h2, h3⟩
                  rcases Nat.lt_or_ge i j with h4 | h4
                  · omega
                  · have : i = j := by omega
                    subst this
                    rw [HFI.out] at h3
                    omega⟩, ⟨Nat.le_refl _⟩⟩
              · go_wp2
                go_quiet (fail)
                go_wp2
                go_ret
                have ht : seekN ps i doc = i := seek_stop hi (by rw [HFI.out]; omega)
                have e := HR.out
                subst e
                refine ⟨rfl, ?_, grown_trans HG2.out (grown_of_below (pw_below_drewN (Below.refl _ _) nq) _)⟩
                rw [← HT.out, ht]
                exact HI2.out.below (pw_below_drewN (Below.refl _ _) nq)
        · have hit : i = tg := by rw [← HT.out]; exact (skip_end (by omega)).symm
          subst hit
          have hlf : loadF bl ⟨posts, (i0 : Int), i⟩ = (false, ⟨[], 0, 1073741824⟩) := by
            unfold loadF
            dsimp only
            rw [List.getElem?_eq_none (by omega)]
          rw [hlf] at HR
          have HLd : Aside0 (∀ k, Calls Try.prog 58 #[.pointer (some ⟨I, 0, none⟩)] (wr.drewN k) fun e w' => e = .returned (.bool false) ∧ Itr w' I base L bl ⟨[], 0, 1073741824⟩ ∧ (wr.drewN k).grownBy w' (some I)) := ⟨fun k => by
            have := load_calls I base L bl ⟨posts, (i0 : Int), i⟩ (wr.drewN k) (HI2.out.below (pw_below_drewN (Below.refl _ _) k)) (Nat.le_trans hbase HG2.out.size)
            rw [hlf] at this
            exact this⟩
          have hltd : decide ((i : Int) < (bl.length : Int)) = false := decide_eq_false (by omega)
          have hltd2 : decide (i < bl.length) = false := decide_eq_false (by omega)
          clear hb1 hb2 hb3 hb4 hlf hlt
          go_wp2
          go_quiet (fail)
          go_wp2_with (go_at_call 58; ((with_reducible refine (HLd.out _).mono ?_)); rintro e w7 ⟨rfl, hi7, hg7⟩; have HI7 := Aside0.mk hi7; have HG7 := Aside0.mk (grown_trans (grown_trans HG2.out (grown_of_below (pw_below_drewN (Below.refl _ _) _) _)) hg7); clear hi7 hg7)
          go_ret
          have e := HR.out
          rw [if_neg (by decide)] at e
          subst e
          exact ⟨rfl, HI7.out, HG7.out⟩
    · have HR : Aside0 (R = (true, ⟨posts, (seekN posts i0 doc : Int), nx⟩)) := ⟨by rw [← hR]; unfold advF; rw [if_pos ⟨hh, by rw [hfl]; exact hld⟩]; rfl⟩
      have HEX : Aside0 (∃ j, i0 ≤ j ∧ j < posts.length ∧ doc ≤ (posts.getD j z58).f0) := ⟨⟨posts.length - 1, by omega, by omega, by rw [hfl]; omega⟩⟩
      have hldd : decide (fl < doc) = false := decide_eq_false hld
      clear hR hh hfl hld
      go_enter Try.func20, Try.ntmps20
      go_wp2
      go_big_quiet (first | (go_at_call 57; ((with_reducible refine (HH.out _).mono ?_)); rintro e w6 ⟨rfl, kd, rfl⟩; exact ⟨rfl, _, rfl⟩))
      go_wp2
      have HI2 := Aside0.mk (HI.out.below (pw_below_drewN (Below.refl w.heap.size w) nq))
      have HG2 := Aside0.mk (grown_of_below (pw_below_drewN (Below.refl w.heap.size w) nq) (some I))
      obtain ⟨tg, htg⟩ : ∃ tg, seekN posts i0 doc = tg := ⟨_, rfl⟩
      rw [htg] at HR
      have HT := Aside0.mk htg
      clear htg hx0 hc0 hc1 hldd
      go_loopg [] posts.length (fun kq w' => ∃ i : Nat, Aside0 (Itr w' I base L bl ⟨posts, (i : Int), nx⟩) ∧ Aside0 (w.grownBy w' (some I)) ∧ Aside0 (seekN posts i doc = tg) ∧ Aside0 (∃ j, i ≤ j ∧ j < posts.length ∧ doc ≤ (posts.getD j z58).f0) ∧ Aside0 (posts.length - i ≤ kq))
      case atStart => exact ⟨i0, HI2, HG2, HT, HEX, ⟨by omega⟩⟩
      case round =>
        clear HI2 HG2 HT HEX
        obtain ⟨i, HI2, HG2, HT, HEX, HK⟩ := hrel
        have hi : i < posts.length := by obtain ⟨j, h1, h2, _⟩ := HEX.out; omega
        obtain ⟨vq, hb1, hb2⟩ := HI2.out.v
        obtain ⟨Aq, cq, rfl, hcq, hCq⟩ := hb2.reads
        dsimp only at hCq hcq
        obtain ⟨aq, A2, c2, rfl, hy0, hy1, hl2, hC2⟩ := at_T58 hCq (i : Int) (by omega) (by omega)
        rw [Int.toNat_natCast] at hy0
        have hge : rd_T58 posts (i : Int) = posts.getD i z58 := by unfold rd_T58; rw [Int.toNat_natCast]
        rw [hge] at hy0
        obtain ⟨fi, hfi⟩ : ∃ fi, (posts.getD i z58).f0 = fi := ⟨_, rfl⟩
        rw [hfi] at hy0
        have HFI := Aside0.mk hfi
        have hd0 := blk_cell hb1 0
        have hd1 := blk_cell hb1 1
        have hdf := blk_frozen hb1 1
        have hplq : posts.length ≤ 1048576 := HI2.out.plen
        clear hb1 hb2 hCq hC2 hy1 hl2 hge hfi
        by_cases hlt : fi < doc
        · go_wp2
          go_quiet (fail)
          go_wp2
          have hz := Itr_set1 (HI2.out.below (pw_below_drewN (Below.refl _ _) nq)) ((i : Int) + 1) (by omega)
          go_roundg (posts.length - (i + 1))
          case measure => have := HK.out; omega
          case rel => exact ⟨i + 1, ⟨hz.1⟩, ⟨grown_trans (grown_trans HG2.out (grown_of_below (pw_below_drewN (Below.refl _ _) nq) _)) hz.2⟩, ⟨by rw [← HT.out]; exact seek_step hi (by rw [HFI.out]; omega)⟩, ⟨by
            obtain ⟨j, h1, h2, h3⟩ := HEX.out
            refine ⟨j, ?_, h2, h3⟩
            rcases Nat.lt_or_ge i j with h4 | h4
            · omega
            · have : i = j := by omega
              subst this
              rw [HFI.out] at h3
              omega⟩, ⟨Nat.le_refl _⟩⟩
        · go_wp2
          go_quiet (fail)
          go_wp2
          go_ret
          have ht : seekN posts i doc = i := seek_stop hi (by rw [HFI.out]; omega)
          have e := HR.out
          subst e
          refine ⟨rfl, ?_, grown_trans HG2.out (grown_of_below (pw_below_drewN (Below.refl _ _) nq) _)⟩
          rw [← HT.out, ht]
          exact HI2.out.below (pw_below_drewN (Below.refl _ _) nq)
  · have HH := Aside0.mk (here_drew I base L bl s w h false (decide_eq_false hh))
    obtain ⟨posts, at_, nx⟩ := s
    dsimp only at hm hc hc0 hc1 hpl
    have HR : Aside0 (R = if (loadF bl ⟨posts, at_, skipN bl nx doc⟩).1 = true then (true, { (loadF bl ⟨posts, at_, skipN bl nx doc⟩).2 with at' := seekN (loadF bl ⟨posts, at_, skipN bl nx doc⟩).2.posts 0 doc }) else (false, (loadF bl ⟨posts, at_, skipN bl nx doc⟩).2)) := ⟨by rw [← hR]; unfold advF; rw [if_neg (fun e => hh e.1)]⟩
    clear hR hh hC h h1 h2
    go_enter Try.func20, Try.ntmps20
    go_wp2
    go_big_quiet (first | (go_at_call 57; ((with_reducible refine (HH.out _).mono ?_)); rintro e w6 ⟨rfl, kd, rfl⟩; exact ⟨rfl, _, rfl⟩))
    go_wp2
    have HI2 := Aside0.mk (HI.out.below (pw_below_drewN (Below.refl w.heap.size w) nq))
    have HG2 := Aside0.mk (grown_of_below (pw_below_drewN (Below.refl w.heap.size w) nq) (some I))
    obtain ⟨tg, htg⟩ : ∃ tg, skipN bl nx doc = tg := ⟨_, rfl⟩
    rw [htg] at HR
    have HT := Aside0.mk htg
    clear htg hc0 hc1
    go_loopg [] bl.length (fun kq w' => ∃ i : Nat, Aside0 (Itr w' I base L bl ⟨posts, at_, i⟩) ∧ Aside0 (w.grownBy w' (some I)) ∧ Aside0 (skipN bl i doc = tg) ∧ Aside0 (bl.length - i ≤ kq))
    case atStart => exact ⟨nx, HI2, HG2, HT, ⟨by omega⟩⟩
    case round =>
      clear HI2 HG2 HT
      obtain ⟨i, HI2, HG2, HT, HK⟩ := hrel
      obtain ⟨vq, hb1, hb2⟩ := HI2.out.v
      obtain ⟨vb, nn, hb3, hb4⟩ := HI2.out.l.v
      obtain ⟨Ab, cb, rfl, hcb⟩ := Bx.slice hb4
      have hd2 := blk_cell hb1 2
      have hd3 := blk_cell hb1 3
      have hdf := blk_frozen hb1 3
      have hl0 := blk_cell hb3 0
      have hnx : i ≤ 1073741824 := HI2.out.nx
      by_cases hlt : i < bl.length
      · obtain ⟨aq, A2, c2, p, rfl, hp, hx0, hx1, hx2, hx3, hlp, hCp⟩ := Bx.at_ hb4 i hlt
        obtain ⟨pl, hple⟩ : ∃ pl, p.last = pl := ⟨_, rfl⟩
        rw [hple] at hx2
        have HP := Aside0.mk hp
        have HPL := Aside0.mk hple
        clear hb1 hb2 hb3 hb4 hp hple hx0 hx1 hx3 hCp hlp
        by_cases hpd : pl < doc
        · go_wp2
          go_quiet (fail)
          go_wp2
          have hz := Itr_set_nx (HI2.out.below (pw_below_drewN (Below.refl _ _) nq)) (i + 1) (by omega)
          go_roundg (bl.length - (i + 1))
          case measure => have := HK.out; omega
          case rel => exact ⟨i + 1, ⟨by simpa using hz.1⟩, ⟨grown_trans (grown_trans HG2.out (grown_of_below (pw_below_drewN (Below.refl _ _) nq) _)) (by simpa using hz.2)⟩, ⟨by rw [← HT.out]; exact skip_step HP.out (by rw [HPL.out]; exact hpd)⟩, ⟨Nat.le_refl _⟩⟩
        · have hit : i = tg := by rw [← HT.out]; exact (skip_stop HP.out (by rw [HPL.out]; exact hpd)).symm
          subst hit
          have hpk := HI2.out.l.ok p (List.mem_of_getElem? HP.out)
          have hlast := postsF_last hpk.ok hpk.n1
          have hlf : loadF bl ⟨posts, at_, i⟩ = (true, ⟨(postsF p.b p.ahead p.last p.n).1, 0, i + 1⟩) := by unfold loadF; dsimp only; rw [HP.out]
          rw [hlf] at HR
          have HLd : Aside0 (∀ k, Calls Try.prog 58 #[.pointer (some ⟨I, 0, none⟩)] (wr.drewN k) fun e w' => e = .returned (.bool true) ∧ Itr w' I base L bl ⟨(postsF p.b p.ahead p.last p.n).1, 0, i + 1⟩ ∧ (wr.drewN k).grownBy w' (some I)) := ⟨fun k => by
            have := load_calls I base L bl ⟨posts, at_, i⟩ (wr.drewN k) (HI2.out.below (pw_below_drewN (Below.refl _ _) k)) (Nat.le_trans hbase HG2.out.size)
            rw [hlf] at this
            exact this⟩
          rw [HPL.out] at hlast
          obtain ⟨ps, hps⟩ : ∃ ps, (postsF p.b p.ahead p.last p.n).1 = ps := ⟨_, rfl⟩
          rw [HPL.out] at hps
          rw [HPL.out, hps] at HR HLd
          rw [hps] at hlast
          have hR2 := HR.out
          rw [if_pos rfl] at hR2
          dsimp only at hR2
          obtain ⟨tg, htg⟩ : ∃ tg, seekN ps 0 doc = tg := ⟨_, rfl⟩
          rw [htg] at hR2
          have HR3 := Aside0.mk hR2
          have HT3 := Aside0.mk htg
          have hpne : 0 < ps.length := by
            rcases Nat.eq_zero_or_pos ps.length with h | h
            · exact absurd (List.eq_nil_of_length_eq_zero h) hlast.1
            · exact h
          have HEX3 : Aside0 (∃ j, 0 ≤ j ∧ j < ps.length ∧ doc ≤ (ps.getD j z58).f0) := ⟨⟨ps.length - 1, by omega, by omega, by rw [hlast.2]; omega⟩⟩
          have hpdd : decide (pl < doc) = false := decide_eq_false hpd
          clear hR2 htg hps hlf hlast hpk HR HT hpd
          go_wp2
          go_quiet (fail)
          go_wp2_with (go_at_call 58; ((with_reducible refine (HLd.out _).mono ?_)); rintro e w7 ⟨rfl, hi7, hg7⟩; have HI7 := Aside0.mk hi7; have HG7 := Aside0.mk (grown_trans (grown_trans HG2.out (grown_of_below (pw_below_drewN (Below.refl _ _) _) _)) hg7); clear hi7 hg7)
          clear HI2 HG2 HLd hd2 hd3 hdf hl0 hx2
          have HR := HR3
          have HT := HT3
          have HEX := HEX3
          have HI2 := HI7
          have HG2 := HG7
          clear HR3 HT3 HEX3 HI7 HG7
          obtain ⟨nx2, hn2⟩ : ∃ nx2, i + 1 = nx2 := ⟨_, rfl⟩
          rw [hn2] at HR HI2
          clear hn2
          go_loopg [] ps.length (fun kq w' => ∃ i : Nat, Aside0 (Itr w' I base L bl ⟨ps, (i : Int), nx2⟩) ∧ Aside0 (w.grownBy w' (some I)) ∧ Aside0 (seekN ps i doc = tg) ∧ Aside0 (∃ j, i ≤ j ∧ j < ps.length ∧ doc ≤ (ps.getD j z58).f0) ∧ Aside0 (ps.length - i ≤ kq))
          case atStart => exact ⟨0, HI2, HG2, HT, HEX, ⟨by omega⟩⟩
          case round =>
            clear HI2 HG2 HT HEX
            obtain ⟨i, HI2, HG2, HT, HEX, HK⟩ := hrel
            have hi : i < ps.length := by obtain ⟨j, h1, h2, _⟩ := HEX.out; omega
            obtain ⟨vq, hb1, hb2⟩ := HI2.out.v
            obtain ⟨Aq, cq, rfl, hcq, hCq⟩ := hb2.reads
            dsimp only at hCq hcq
            obtain ⟨aq, A2, c2, rfl, hy0, hy1, hl2, hC2⟩ := at_T58 hCq (i : Int) (by omega) (by omega)
            rw [Int.toNat_natCast] at hy0
            have hge : rd_T58 ps (i : Int) = ps.getD i z58 := by unfold rd_T58; rw [Int.toNat_natCast]
            rw [hge] at hy0
            obtain ⟨fi, hfi⟩ : ∃ fi, (ps.getD i z58).f0 = fi := ⟨_, rfl⟩
            rw [hfi] at hy0
            have HFI := Aside0.mk hfi
            have hd0 := blk_cell hb1 0
            have hd1 := blk_cell hb1 1
            have hdf := blk_frozen hb1 1
            have hplq : ps.length ≤ 1048576 := HI2.out.plen
            clear hb1 hb2 hCq hC2 hy1 hl2 hge hfi
            by_cases hlt : fi < doc
            · go_wp2
              go_quiet (fail)
              go_wp2
              have hz := Itr_set1 (HI2.out.below (pw_below_drewN (Below.refl _ _) nq)) ((i : Int) + 1) (by omega)
              go_roundg (ps.length - (i + 1))
              case measure => have := HK.out; omega
              case rel => exact ⟨i + 1, ⟨hz.1⟩, ⟨grown_trans (grown_trans HG2.out (grown_of_below (pw_below_drewN (Below.refl _ _) nq) _)) hz.2⟩, ⟨by rw [← HT.out]; exact seek_step hi (by rw [HFI.out]; omega)⟩, ⟨by
                obtain ⟨j, h1, h2, h3⟩ := HEX.out
                refine ⟨j, ?_, h2, h3⟩
                rcases Nat.lt_or_ge i j with h4 | h4
                · omega
                · have : i = j := by omega
                  subst this
                  rw [HFI.out] at h3
                  omega⟩, ⟨Nat.le_refl _⟩⟩
            · go_wp2
              go_quiet (fail)
              go_wp2
              go_ret
              have ht : seekN ps i doc = i := seek_stop hi (by rw [HFI.out]; omega)
              have e := HR.out
              subst e
              refine ⟨rfl, ?_, grown_trans HG2.out (grown_of_below (pw_below_drewN (Below.refl _ _) nq) _)⟩
              rw [← HT.out, ht]
              exact HI2.out.below (pw_below_drewN (Below.refl _ _) nq)
      · have hit : i = tg := by rw [← HT.out]; exact (skip_end (by omega)).symm
        subst hit
        have hlf : loadF bl ⟨posts, at_, i⟩ = (false, ⟨[], 0, 1073741824⟩) := by
          unfold loadF
          dsimp only
          rw [List.getElem?_eq_none (by omega)]
        rw [hlf] at HR
        have HLd : Aside0 (∀ k, Calls Try.prog 58 #[.pointer (some ⟨I, 0, none⟩)] (wr.drewN k) fun e w' => e = .returned (.bool false) ∧ Itr w' I base L bl ⟨[], 0, 1073741824⟩ ∧ (wr.drewN k).grownBy w' (some I)) := ⟨fun k => by
          have := load_calls I base L bl ⟨posts, at_, i⟩ (wr.drewN k) (HI2.out.below (pw_below_drewN (Below.refl _ _) k)) (Nat.le_trans hbase HG2.out.size)
          rw [hlf] at this
          exact this⟩
        have hltd : decide ((i : Int) < (bl.length : Int)) = false := decide_eq_false (by omega)
        have hltd2 : decide (i < bl.length) = false := decide_eq_false (by omega)
        clear hb1 hb2 hb3 hb4 hlf hlt
        go_wp2
        go_quiet (fail)
        go_wp2_with (go_at_call 58; ((with_reducible refine (HLd.out _).mono ?_)); rintro e w7 ⟨rfl, hi7, hg7⟩; have HI7 := Aside0.mk hi7; have HG7 := Aside0.mk (grown_trans (grown_trans HG2.out (grown_of_below (pw_below_drewN (Below.refl _ _) _) _)) hg7); clear hi7 hg7)
        go_ret
        have e := HR.out
        rw [if_neg (by decide)] at e
        subst e
        exact ⟨rfl, HI7.out, HG7.out⟩
end Go.Proofs.Ytimlgpfcgklddaa.P
