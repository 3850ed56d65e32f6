/-
Texts of this seat, laid together: D8, D9, D12.
-/
import Derived.Deep.CutRange
import Derived.Deep.RegionLaw
import Derived.Test.YtimlgpfcgklddaaQP5
namespace Go.Proofs.Ytimlgpfcgklddaa
open Go.RowKit
/-- The next block is at hand. -/
def loadF (bl : List Blk) (s : ISt) : Bool × ISt :=
  match bl[s.nx]? with
  | none => (false, ⟨[], 0, 1073741824⟩)
  | some p => (true, ⟨(postsF p.b p.ahead p.last p.n).1, 0, s.nx + 1⟩)
def nextF (bl : List Blk) (s : ISt) : Bool × ISt := if s.here ∧ s.at' + 1 < s.posts.length then (true, { s with at' := s.at' + 1 }) else loadF bl s
end Go.Proofs.Ytimlgpfcgklddaa
namespace Go.Proofs.Ytimlgpfcgklddaa.P
open Go.RowKit Go.Shelf Go.Proofs.YtimlgpfcgklddaaW.PrintWords Go.Proofs.YtimlgpfcgklddaaW.PrintLast Go.Proofs.YtimlgpfcgklddaaW.PrintMore
set_option linter.unusedVariables false
set_option linter.unusedSimpArgs false
theorem Itr_set3 {w : World} {I L base : Nat} {bl : List Blk} {a b d v : Value} {posts : List S58} {i : Int} {m : Nat} (h0 : w.heap[I]? = some (.cells #[a, b, .pointer (some ⟨L, 0, none⟩), d] 103 (0, 0))) (hl : Lst w L base bl) (hp : Px w base v posts) (hi : -1 ≤ i ∧ i ≤ 1048576) (hm : m ≤ 1073741824) (hpl : posts.length ≤ 1048576) :
    Itr (((w.setCell ⟨I, 0, none⟩ v).setCell ⟨I, 1, none⟩ (.int .i64 i)).setCell ⟨I, 3, none⟩ (.int .i64 (m : Int))) I base L bl ⟨posts, i, m⟩ ∧ w.grownBy (((w.setCell ⟨I, 0, none⟩ v).setCell ⟨I, 1, none⟩ (.int .i64 i)).setCell ⟨I, 3, none⟩ (.int .i64 (m : Int))) (some I) := by
  have hg := grown_trans (grown_trans (grownBy_set w I 0 v) (grownBy_set _ I 1 (.int .i64 i))) (grownBy_set _ I 3 (.int .i64 (m : Int)))
  exact ⟨⟨⟨v, blk_set (blk_set (blk_set h0 0 v) 1 _) 3 _, hp.grown hg (fun k c e hk => by injection e with e; subst e; exact block_ne h0 hk (by decide)) (fun k c e hk => by injection e with e; subst e; exact block_ne h0 hk (by decide))⟩, hl.keep h0 hg, hi, hm, hpl⟩, hg⟩
set_option maxHeartbeats 1000000 in
theorem Doc_calls (I base L : Nat) (bl : List Blk) (s : ISt) (w : World) (h : Itr w I base L bl s) :
    Calls Try.prog 24 #[.pointer (some ⟨I, 0, none⟩)] w fun e w' => e = .returned (.int .i64 (docF s)) ∧ Drawn0 w w' := by
  have HH := Aside0.mk (here_calls I base L bl s w h)
  obtain ⟨vp, h1, h2⟩ := h.v
  obtain ⟨A, c, rfl, hc, hC⟩ := h2.reads
  have hm := Kd.C_max hC
  have HC := Aside0.mk hC
  have hc0 := blk_cell h1 0
  have hc1 := blk_cell h1 1
  obtain ⟨d, hd⟩ : ∃ d, docF s = d := ⟨_, rfl⟩
  rw [hd]
  by_cases hh : s.here
  · have hd2 : d = s.post.f0 := by rw [← hd]; unfold docF; rw [if_pos hh]
    rw [decide_eq_true hh] at HH
    obtain ⟨h01, h02⟩ := hh
    unfold ISt.post at hd2
    obtain ⟨posts, at_, nx⟩ := s
    dsimp only at hm hc hc0 hc1 h01 h02 hd2 HC
    obtain ⟨i, rfl⟩ := Int.eq_ofNat_of_zero_le h01
    obtain ⟨ad, A1, c1, rfl, hx0, hx1, hl1, hC1⟩ := at_T58 HC.out (i : Int) (by omega) (by omega)
    rw [Int.toNat_natCast] at hx0 hx1 hd2
    have he : (rd_T58 posts (i : Int)).f0 = d := by rw [hd2]; unfold rd_T58; rw [Int.toNat_natCast]
    rw [he] at hx0
    clear h h1 h2 hC hd hd2 he hC1
    go_enter Try.func24, Try.ntmps24
    go_wp2_with (go_at_call 57; ((with_reducible refine HH.out.mono ?_)); rintro e w1 ⟨rfl, hdr⟩; obtain ⟨kd, rfl⟩ := hdr.out)
    go_quiet (fail)
    go_wp2
    go_ret
    exact ⟨rfl, Drawn0.step ⟨⟨kd, rfl⟩⟩ _⟩
  · have hd2 : d = (if s.at' < 0 then -1 else 16384) := by rw [← hd]; unfold docF; rw [if_neg hh]
    rw [decide_eq_false hh] at HH
    obtain ⟨posts, at_, nx⟩ := s
    dsimp only at hm hc hc0 hc1 hd2 HC
    clear h h1 h2 hC hd hh
    by_cases h0 : at_ < 0
    · rw [if_pos h0] at hd2
      subst hd2
      go_enter Try.func24, Try.ntmps24
      go_wp2_with (go_at_call 57; ((with_reducible refine HH.out.mono ?_)); rintro e w1 ⟨rfl, hdr⟩; obtain ⟨kd, rfl⟩ := hdr.out)
      go_ret
      exact ⟨rfl, ⟨_, rfl⟩⟩
    · rw [if_neg h0] at hd2
      subst hd2
      go_enter Try.func24, Try.ntmps24
      go_wp2_with (go_at_call 57; ((with_reducible refine HH.out.mono ?_)); rintro e w1 ⟨rfl, hdr⟩; obtain ⟨kd, rfl⟩ := hdr.out)
      go_ret
      exact ⟨rfl, ⟨_, rfl⟩⟩
set_option maxHeartbeats 1000000 in
theorem Freq_calls (I base L : Nat) (bl : List Blk) (s : ISt) (w : World) (h : Itr w I base L bl s) :
    Calls Try.prog 26 #[.pointer (some ⟨I, 0, none⟩)] w fun e w' => e = .returned (.int .i64 (freqF s)) ∧ Drawn0 w w' := by
  have HH := Aside0.mk (here_calls I base L bl s w h)
  obtain ⟨vp, h1, h2⟩ := h.v
  obtain ⟨A, c, rfl, hc, hC⟩ := h2.reads
  have hm := Kd.C_max hC
  have HC := Aside0.mk hC
  have hc0 := blk_cell h1 0
  have hc1 := blk_cell h1 1
  obtain ⟨d, hd⟩ : ∃ d, freqF s = d := ⟨_, rfl⟩
  rw [hd]
  by_cases hh : s.here
  · have hd2 : d = s.post.f1.length := by rw [← hd]; unfold freqF; rw [if_pos hh]
    rw [decide_eq_true hh] at HH
    obtain ⟨h01, h02⟩ := hh
    unfold ISt.post at hd2
    obtain ⟨posts, at_, nx⟩ := s
    dsimp only at hm hc hc0 hc1 h01 h02 hd2 HC
    obtain ⟨i, rfl⟩ := Int.eq_ofNat_of_zero_le h01
    obtain ⟨ad, A1, c1, rfl, hx0, hx1, hl1, hC1⟩ := at_T58 HC.out (i : Int) (by omega) (by omega)
    rw [Int.toNat_natCast] at hx0 hx1 hd2
    have he : rd_T58 posts (i : Int) = posts.getD i z58 := by unfold rd_T58; rw [Int.toNat_natCast]
    obtain ⟨p, hp⟩ : ∃ p, posts.getD i z58 = p := ⟨_, rfl⟩
    rw [he, hp] at hx1
    rw [hp] at hd2
    subst hd2
    clear h h1 h2 hC hd he hC1 hl1 hx0
    go_enter Try.func26, Try.ntmps26
    go_wp2_with (go_at_call 57; ((with_reducible refine HH.out.mono ?_)); rintro e w1 ⟨rfl, hdr⟩; obtain ⟨kd, rfl⟩ := hdr.out)
    go_quiet (fail)
    go_wp2
    go_ret
    exact ⟨rfl, Drawn0.step ⟨⟨kd, rfl⟩⟩ _⟩
  · have hd2 : d = 0 := by rw [← hd]; unfold freqF; rw [if_neg hh]
    rw [decide_eq_false hh] at HH
    subst hd2
    clear h h1 h2 hC hd hh
    go_enter Try.func26, Try.ntmps26
    go_wp2_with (go_at_call 57; ((with_reducible refine HH.out.mono ?_)); rintro e w1 ⟨rfl, hdr⟩; obtain ⟨kd, rfl⟩ := hdr.out)
    go_ret
    exact ⟨rfl, ⟨_, rfl⟩⟩
set_option maxRecDepth 100000 in
set_option maxHeartbeats 2000000 in
theorem load_calls (I base L : Nat) (bl : List Blk) (s : ISt) (w : World) (h : Itr w I base L bl s) (hbase : base ≤ w.heap.size) :
    Calls Try.prog 58 #[.pointer (some ⟨I, 0, none⟩)] w fun e w' => e = .returned (.bool (loadF bl s).1) ∧ Itr w' I base L bl (loadF bl s).2 ∧ w.grownBy w' (some I) := by
  have HI := Aside0.mk h
  obtain ⟨vp, h1, h2⟩ := h.v
  obtain ⟨vb, nn, h3, h4⟩ := h.l.v
  obtain ⟨Ab, cb, rfl, hcb⟩ := Bx.slice h4
  have hc0 := blk_cell h1 0
  have hc1 := blk_cell h1 1
  have hc2 := blk_cell h1 2
  have hc3 := blk_cell h1 3
  have hf0 := blk_frozen h1 0
  have hf1 := blk_frozen h1 1
  have hf3 := blk_frozen h1 3
  have hl0 := blk_cell h3 0
  have hbl := h.l.len
  have hnx := h.nx
  obtain ⟨posts, at_, nx⟩ := s
  dsimp only at hc0 hc1 hc2 hc3 hnx
  have H1 := Aside0.mk h1
  have H3 := Aside0.mk h3
  have H4 := Aside0.mk h4
  by_cases hlt : nx < bl.length
  · obtain ⟨ad, A1, c1, p, rfl, hp, hx0, hx1, hx2, hx3, hlp, hCp⟩ := Bx.at_ h4 nx hlt
    have hpk := h.l.ok p (List.mem_of_getElem? hp)
    have hld : loadF bl ⟨posts, at_, nx⟩ = (true, ⟨(postsF p.b p.ahead p.last p.n).1, 0, nx + 1⟩) := by unfold loadF; dsimp only; rw [hp]
    rw [hld]
    obtain ⟨pb, pa, pl, pn⟩ := p
    have hpf := postsF_facts (bs := pb) (ahead := pa) (last := pl) (n := pn)
    obtain ⟨R, hR⟩ : ∃ R, postsF pb pa pl pn = R := ⟨_, rfl⟩
    dsimp only at hx0 hx1 hx2 hx3 hlp hCp ⊢
    rw [hR] at hpf ⊢
    have HPo : Aside0 (∀ W, Below w.heap.size w W → Calls Try.prog 53 #[.agg #[.slice A1 pb.length c1, .int .i64 pa, .int .i64 pl, .int .i64 pn]] W fun e w' => ∃ v, e = .returned (.tuple #[v, .bool R.2]) ∧ Px w' W.heap.size v R.1 ∧ Below W.heap.size W w') := ⟨fun W hW => by
      have := posts_calls A1 pb c1 pn pa pl W (Kd.C_below hCp hW) hlp hpk.len hpk.range hpk.n2 hpk.n1 hpk.ahead
      rw [hR] at this
      exact this⟩
    have HPF := Aside0.mk (show R.1.length ≤ 1048576 from Nat.le_trans hpf.1 hpk.n2)
    clear h h1 h2 h3 h4 hp hpk hld hpf hR hCp hlp
    go_enter Try.func58, Try.ntmps58
    go_wp2
    go_quiet (fail)
    go_wp2
    go_region_with (first | (go_at_call 53; ((with_reducible refine (HPo.out _ (by repeat (first | apply below_drew | apply pw_below_drewN | exact Below.refl _ _))).mono ?_)); rintro e w5 ⟨v5, rfl, hp5, hb5⟩; obtain ⟨A5, c5, rfl, _, _⟩ := hp5.reads; have hB5 : Below w.heap.size w w5 := Below.trans (by repeat (first | apply below_drew | apply pw_below_drewN | exact Below.refl _ _)) hb5; have HP5 := Aside0.mk hp5; have HB5 := Aside0.mk hB5; have hi5 := blk_below H1.out hB5; have HI5 := Aside0.mk hi5; have hd0 := blk_cell hi5 0; have hd1 := blk_cell hi5 1; have hd3 := blk_cell hi5 3; have hg0 := blk_frozen hi5 0; have hg1 := blk_frozen hi5 1; have hg3 := blk_frozen hi5 3; clear hp5 hb5 hB5 hi5))
    all_goals (
      go_wp2
      go_ret
      have hz := Itr_set3 HI5.out (HI.out.l.below HB5.out) (Px.lower HP5.out (Nat.le_trans hbase (by have := HB5.out.size; first | exact Nat.le_refl _ | (simp; done)))) (i := 0) (m := nx + 1) (by omega) (by omega) HPF.out
      exact ⟨rfl, by simpa using hz.1, grown_trans (grown_of_below HB5.out _) (by simpa using hz.2)⟩)
  · have hld : loadF bl ⟨posts, at_, nx⟩ = (false, ⟨[], 0, 1073741824⟩) := by
      unfold loadF
      dsimp only
      rw [List.getElem?_eq_none (by omega)]
    rw [hld]
    clear h h1 h2 h3 h4 hld
    have hge : nx ≥ bl.length := by omega
    go_enter Try.func58, Try.ntmps58
    go_wp2
    go_quiet (fail)
    go_wp2
    go_ret
    have hz := Itr_set3 (w := w.drewN nq) (H1.out) (HI.out.l.below (pw_below_drewN (Below.refl _ _) nq)) (Px.nil _ base) (i := 0) (m := 1073741824) (by omega) (by omega) (by simp)
    exact ⟨rfl, hz.1, grown_trans (grown_of_below (pw_below_drewN (Below.refl _ _) nq) _) hz.2⟩
theorem here_drew (I base L : Nat) (bl : List Blk) (s : ISt) (w : World) (h : Itr w I base L bl s) (b : Bool) (hb : decide s.here = b) : ∀ k, Calls Try.prog 57 #[.pointer (some ⟨I, 0, none⟩)] (w.drewN k) fun e w' => e = .returned (.bool b) ∧ ∃ n, w' = w.drewN n := fun k => by
  have := here_calls I base L bl s (w.drewN k) (h.below (pw_below_drewN (Below.refl _ _) k))
  rw [hb] at this
  exact this.mono fun e w' h => ⟨h.1, by obtain ⟨n, rfl⟩ := h.2.out; exact (Drawn0.step ⟨⟨k, rfl⟩⟩ n).out⟩
theorem Itr_set1 {w : World} {I L base : Nat} {bl : List Blk} {s : ISt} (h : Itr w I base L bl s) (i : Int) (hi : -1 ≤ i ∧ i ≤ 1048576) :
    Itr (w.setCell ⟨I, 1, none⟩ (.int .i64 i)) I base L bl { s with at' := i } ∧ w.grownBy (w.setCell ⟨I, 1, none⟩ (.int .i64 i)) (some I) := by
  obtain ⟨vp, h1, h2⟩ := h.v
  have hg := grownBy_set w I 1 (.int .i64 i)
  exact ⟨⟨⟨vp, blk_set h1 1 _, h2.grown hg (fun k c e hk => by injection e with e; subst e; exact block_ne h1 hk (by decide)) (fun k c e hk => by injection e with e; subst e; exact block_ne h1 hk (by decide))⟩, h.l.keep h1 hg, hi, h.nx, h.plen⟩, hg⟩
set_option maxRecDepth 100000 in
set_option maxHeartbeats 2000000 in
theorem Next_calls (I base L : Nat) (bl : List Blk) (s : ISt) (w : World) (h : Itr w I base L bl s) (hbase : base ≤ w.heap.size) :
    Calls Try.prog 18 #[.pointer (some ⟨I, 0, none⟩)] w fun e w' => e = .returned (.bool (nextF bl s).1) ∧ Itr w' I base L bl (nextF bl s).2 ∧ w.grownBy w' (some I) := by
  have HI := Aside0.mk h
  obtain ⟨vp, h1, h2⟩ := h.v
  obtain ⟨A, c, rfl, hc, hC⟩ := h2.reads
  have hm := Kd.C_max hC
  have hc0 := blk_cell h1 0
  have hc1 := blk_cell h1 1
  have hf1 := blk_frozen h1 1
  have hat := h.at0
  have hpl := h.plen
  have HLd : Aside0 (∀ k, Calls Try.prog 58 #[.pointer (some ⟨I, 0, none⟩)] (w.drewN k) fun e w' => e = .returned (.bool (loadF bl s).1) ∧ Itr w' I base L bl (loadF bl s).2 ∧ (w.drewN k).grownBy w' (some I)) := ⟨fun k => load_calls I base L bl s (w.drewN k) (h.below (pw_below_drewN (Below.refl _ _) k)) hbase⟩
  by_cases hh : s.here
  · have HH := Aside0.mk (here_drew I base L bl s w h true (decide_eq_true hh))
    by_cases hn : s.at' + 1 < s.posts.length
    · have hnf : nextF bl s = (true, { s with at' := s.at' + 1 }) := by unfold nextF; rw [if_pos ⟨hh, hn⟩]
      rw [hnf]
      have h0 : 0 ≤ s.at' := hh.1
      obtain ⟨posts, at_, nx⟩ := s
      dsimp only at hm hc hc0 hc1 hat hpl hn h0 ⊢
      clear h h1 h2 hC hnf hh HLd
      go_enter Try.func18, Try.ntmps18
      go_wp2
      go_big_quiet (first | (go_at_call 57; ((with_reducible refine (HH.out _).mono ?_)); rintro e w6 ⟨rfl, kd, rfl⟩; exact ⟨rfl, _, rfl⟩))
      go_wp2
      go_ret
      have hz := Itr_set1 (HI.out.below (pw_below_drewN (Below.refl _ _) nq)) (at_ + 1) (by omega)
      exact ⟨rfl, hz.1, grown_trans (grown_of_below (pw_below_drewN (Below.refl _ _) nq) _) hz.2⟩
    · have hnf : nextF bl s = loadF bl s := by unfold nextF; rw [if_neg (fun e => hn e.2)]
      rw [hnf]
      have h0 : 0 ≤ s.at' := hh.1
      obtain ⟨b, hb⟩ : ∃ b, (loadF bl s).1 = b := ⟨_, rfl⟩
      obtain ⟨s2, hs2⟩ : ∃ s2, (loadF bl s).2 = s2 := ⟨_, rfl⟩
      rw [hb, hs2] at HLd ⊢
      obtain ⟨posts, at_, nx⟩ := s
      dsimp only at hm hc hc0 hc1 hat hpl hn h0 ⊢
      have hnd : decide (at_ + 1 < (posts.length : Int)) = false := decide_eq_false hn
      clear h h1 h2 hC hnf hh hb hs2 hn
      go_enter Try.func18, Try.ntmps18
      go_wp2
      go_big_quiet (first | (go_at_call 57; ((with_reducible refine (HH.out _).mono ?_)); rintro e w6 ⟨rfl, kd, rfl⟩; exact ⟨rfl, _, rfl⟩))
      go_wp2_with (go_at_call 58; ((with_reducible refine (HLd.out _).mono ?_)); rintro e w7 ⟨rfl, hi7, hg7⟩; have HI7 := Aside0.mk hi7; have HG7 := Aside0.mk hg7; clear hi7 hg7)
      go_ret
      exact ⟨rfl, HI7.out, grown_trans (grown_of_below (pw_below_drewN (Below.refl _ _) _) _) HG7.out⟩
  · have HH := Aside0.mk (here_drew I base L bl s w h false (decide_eq_false hh))
    have hnf : nextF bl s = loadF bl s := by unfold nextF; rw [if_neg (fun e => hh e.1)]
    rw [hnf]
    obtain ⟨b, hb⟩ : ∃ b, (loadF bl s).1 = b := ⟨_, rfl⟩
    obtain ⟨s2, hs2⟩ : ∃ s2, (loadF bl s).2 = s2 := ⟨_, rfl⟩
    rw [hb, hs2] at HLd ⊢
    obtain ⟨posts, at_, nx⟩ := s
    clear h h1 h2 hC hnf hh hb hs2
    go_enter Try.func18, Try.ntmps18
    go_wp2
    go_big_quiet (first | (go_at_call 57; ((with_reducible refine (HH.out _).mono ?_)); rintro e w6 ⟨rfl, kd, rfl⟩; exact ⟨rfl, _, rfl⟩))
    go_wp2_with (go_at_call 58; ((with_reducible refine (HLd.out _).mono ?_)); rintro e w7 ⟨rfl, hi7, hg7⟩; have HI7 := Aside0.mk hi7; have HG7 := Aside0.mk hg7; clear hi7 hg7)
    go_ret
    exact ⟨rfl, HI7.out, grown_trans (grown_of_below (pw_below_drewN (Below.refl _ _) _) _) HG7.out⟩
end Go.Proofs.Ytimlgpfcgklddaa.P
namespace Go.Proofs.Ytimlgpfcgklddaa
end Go.Proofs.Ytimlgpfcgklddaa
namespace Go.Proofs.Ytimlgpfcgklddaa.P
open Go.RowKit Go.Shelf Go.Proofs.YtimlgpfcgklddaaW.PrintWords Go.Proofs.YtimlgpfcgklddaaW.PrintLast Go.Proofs.YtimlgpfcgklddaaW.PrintMore
set_option linter.unusedVariables false
set_option linter.unusedSimpArgs false
end Go.Proofs.Ytimlgpfcgklddaa.P
