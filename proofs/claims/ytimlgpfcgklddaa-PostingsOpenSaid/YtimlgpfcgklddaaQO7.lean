/-
Texts of this seat, laid together: O7, O8.
-/
import Derived.BigQuiet
import Derived.Test.YtimlgpfcgklddaaQA13
import Derived.Test.YtimlgpfcgklddaaQO3
import Derived.Test.YtimlgpfcgklddaaQR5
import Derived.Test.YtimlgpfcgklddaaQD3
namespace Go.Proofs.Ytimlgpfcgklddaa
open Go.RowKit Go.Proofs.YtimlgpfcgklddaaW.PrintWords
set_option linter.unusedVariables false
theorem Rf.grown {w0 w w' : World} {R : Nat} {A : Option Addr} {c : Nat} {s : RSt} {row : Option Nat} (h : Rf w0 w R A c s) (hg : w.grownBy w' row) (hne : some R ≠ row) (hb : Below w0.heap.size w0 w') : Rf w0 w' R A c s :=
  ⟨(hg.block R h.lt hne).trans h.v, h.C0, h.hc, h.ok, h.ge, hb⟩
theorem Lx.own_ne {k : IntKind} {e : TypeId} {w : World} {base R : Nat} {v : Value} {xs : List Int} {cells : Array Value} (h : Lx k e w base v xs) (hR : w.heap[R]? = some (.cells cells 114 (0, 0))) (he : e ≠ 114) : some R ≠ v.ownBlock := fun e1 => by
  obtain ⟨c2, h2⟩ := Lax.typed h R e1.symm
  exact block_ne h2 hR he
end Go.Proofs.Ytimlgpfcgklddaa
namespace Go.Proofs.Ytimlgpfcgklddaa.P
open Go.RowKit Go.Shelf Go.Proofs.YtimlgpfcgklddaaW.PrintWords Go.Proofs.YtimlgpfcgklddaaW.PrintLast Go.Proofs.YtimlgpfcgklddaaW.PrintMore
set_option linter.unusedVariables false
set_option linter.unusedSimpArgs false
theorem RGet_most (A : Option Addr) (m c : Nat) (n : Int) (w : World) (hn : 1048576 < n) :
    Calls Try.prog 98 #[.slice A m c, .int .i64 n] w fun e w' => e = .returned (.tuple #[.slice none 0 0, .int .i64 0, .int .i64 1]) ∧ w' = w := by
  have h0 : ¬ n < 0 := by omega
  go_enter Try.func98, Try.ntmps98
  go_wp2
  go_ret3
  exact ⟨rfl, rfl⟩
set_option maxRecDepth 100000 in
set_option maxHeartbeats 4000000 in
theorem RGet_calls (A : Option Addr) (bs : List Int) (c : Nat) (n : Nat) (w : World) (h : (Kd.int .u8).C w A bs.length bs) (hc : bs.length ≤ c) (hl : bs.length ≤ 140737488355328) (hr : ∀ x ∈ bs, 0 ≤ x ∧ x < 256) (hn : n ≤ 1048576) :
    Calls Try.prog 98 #[.slice A bs.length c, .int .i64 n] w fun e w' => (gF bs n = none ∧ e = .returned (.tuple #[.slice none 0 0, .int .i64 0, .int .i64 20]) ∨ ∃ l m v, gF bs n = some (l, m) ∧ e = .returned (.tuple #[v, .int .i64 (m : Int), .int .i64 0]) ∧ Lx .i64 2 w' w.heap.size v l) ∧ Below w.heap.size w w' := by
  have H := Aside0.mk h
  have HR := Aside0.mk hr
  have hmx := Kd.C_max h
  clear h hr
  go_enter Try.func98, Try.ntmps98
  go_wp2
  go_loopg [7, 8] ((n + 127) / 128) (fun kq v7 v8 w' => ∃ (l : List Int) (at0 nr : Nat), v8 = .int .i64 (at0 : Int) ∧ Aside0 (Lx .i64 2 w' w.heap.size v7 l) ∧ Aside0 (l.length + nr = n) ∧ Aside0 (kq = (nr + 127) / 128) ∧ Aside0 (at0 ≤ bs.length) ∧ Aside0 (gGo bs kq at0 nr l = gF bs n) ∧ Aside0 (Below w.heap.size w w'))
  case atStart => exact ⟨[], 0, n, rfl, ⟨Lx.nil _ _ _ _⟩, ⟨by simp⟩, ⟨rfl⟩, ⟨Nat.zero_le _⟩, ⟨rfl⟩, ⟨Below.refl _ _⟩⟩
  case round =>
    obtain ⟨l, at0, nr, rfl, HL, hln, HK, HA, HG, HB⟩ := hrel
    obtain ⟨A1, c1, rfl, hc1, hC1⟩ := HL.out.reads
    have HM1 := Aside0.mk (Kd.C_max hC1)
    have hlnn := hln.out
    have hat := HA.out
    clear hC1
    by_cases hlt : l.length < n
    · obtain ⟨k, hk⟩ : ∃ k, min nr 128 = k := ⟨_, rfl⟩
      have hk1 : 1 ≤ k := by omega
      have hk2 : k ≤ 128 := by omega
      obtain ⟨kv, hkv⟩ : ∃ kv : Int, (k : Int) = kv := ⟨_, rfl⟩
      have hwn : IntKind.i64.wrap ((n : Int) - (l.length : Int)) = (nr : Int) := by rw [IntKind.wrap_i64]; omega
      obtain ⟨m, hm⟩ : ∃ m, gk = m + 1 := ⟨gk - 1, by have := HK.out; omega⟩
      go_upto_if 35 with (fail)
      go_cut [9] (fun v9 wc => v9 = .int .i64 kv ∧ wr = wc)
      case first =>
        by_cases hkc : (128 : Int) < (nr : Int)
        · have hkk : kv = 128 := by omega
          go_wp2
          go_meet
          case rel => exact ⟨by rw [hkk], rfl⟩
        · have hkk : kv = (nr : Int) := by omega
          have hkd : decide ((128 : Int) < (nr : Int)) = false := decide_eq_false hkc
          go_wp2
          go_meet
          case rel => exact ⟨by rw [hkk], rfl⟩
      case' rest => (obtain ⟨rfl, rfl⟩ := hcut; obtain ⟨wo, rfl⟩ : ∃ wo, wo = wr := ⟨_, rfl⟩)
      obtain ⟨ds, hds⟩ : ∃ ds, bs.drop at0 = ds := ⟨_, rfl⟩
      have hdl : ds.length = bs.length - at0 := by rw [← hds, List.length_drop]
      have HG1 : Aside0 ((match gBlk ds k with | none => none | some (xs, d) => gGo bs m (at0 + d) (nr - k) (l ++ xs)) = gF bs n) := ⟨by
        have := HG.out
        rw [hm, gGo, hk, hds] at this
        exact this⟩
      clear HG
      have hok : (⟨ds, 0, 0⟩ : RSt).ok := ⟨Nat.zero_le _, by rw [← hds, List.length_drop]; show bs.length - at0 ≤ _; omega, fun x hx => HR.out x (List.mem_of_mem_drop (by rw [hds]; exact hx))⟩
      obtain ⟨A', hA'⟩ : ∃ A', (if c = at0 then A else Option.map (fun x => x.add at0) A) = A' := ⟨_, rfl⟩
      have HR0 : Aside0 (Rf wo (wo.alloc (.cells #[.slice A' (bs.length - at0) (c - at0), .int .i64 0, .int .i64 0] 114)) wo.heap.size A' (c - at0) ⟨ds, 0, 0⟩) := ⟨⟨by dsimp only; rw [hdl]; exact blk_new wo _, by rw [← hds, ← hA']; exact C_from (Kd.C_below H.out HB.out) hc at0 hat, by dsimp only; omega, hok, Nat.le_refl _, below_alloc (Below.refl _ _) _⟩⟩
      have hlr := qInt_range ⟨ds, 0, 0⟩
      have hok1 := qInt_ok hok
      have e1 := qInt_bs ⟨ds, 0, 0⟩
      obtain ⟨least, s1, h1⟩ : ∃ least s1, qInt ⟨ds, 0, 0⟩ = (least, s1) := ⟨_, _, rfl⟩
      rw [h1] at hlr hok1 e1
      dsimp only at hlr hok1 e1
      have HInt : Aside0 (∀ W, Rf wo W wo.heap.size A' (c - at0) ⟨ds, 0, 0⟩ → Calls Try.prog 123 #[.pointer (some ⟨wo.heap.size, 0, none⟩)] W fun e w' => e = .returned (.int .i64 least) ∧ Rf wo w' wo.heap.size A' (c - at0) s1 ∧ W.grownBy w' (some wo.heap.size)) := ⟨fun W hW => by
        have := QInt_calls wo wo.heap.size A' (c - at0) ⟨ds, 0, 0⟩ W hW
        rw [h1] at this
        exact this⟩
      obtain ⟨wb, s2, h2⟩ : ∃ wb s2, rBytes s1 1 = (wb, s2) := ⟨_, _, rfl⟩
      have HBy1 : Aside0 (∀ W, Rf wo W wo.heap.size A' (c - at0) s1 → Calls Try.prog 67 #[.pointer (some ⟨wo.heap.size, 0, none⟩), .int .i64 1] W fun e w' => ∃ v, e = .returned v ∧ Lx .u8 5 w' W.heap.size v wb ∧ Rf wo w' wo.heap.size A' (c - at0) s2 ∧ W.grownBy w' (some wo.heap.size)) := ⟨fun W hW => by
        have := QBytes_calls wo wo.heap.size A' (c - at0) s1 1 W hW
        rw [h2] at this
        exact this⟩
      have hgb : gBlk ds k = (if s2.e ≠ 0 ∨ wb.getD 0 0 > 64 then none else
          let wd := (wb.getD 0 0).toNat
          let d := rBytes s2 (((wd * k + 7) / 8 : Nat) : Int)
          if d.2.e ≠ 0 then none else
          match unbitsF d.1 wd k with
          | none => none
          | some ab => if packOne (ab.map fun u => wrap64 (least + u)) = ds.take d.2.at' then some (ab.map fun u => wrap64 (least + u), d.2.at') else none) := by
        unfold gBlk
        simp only [h1, h2]
        rfl
      have e2 := rBytes_bs s1 1
      have hok2 := rBytes_ok hok1 1
      rw [h2] at e2 hok2
      dsimp only at e2 hok2
      by_cases he2 : s2.e = 0
      · have hg1 := rBytes_good (n := 1) hok1 (by rw [show ((1 : Nat) : Int) = 1 from rfl, h2]; exact he2)
        rw [show ((1 : Nat) : Int) = 1 from rfl, h2] at hg1
        obtain ⟨x, rfl⟩ : ∃ x, wb = [x] := by
          have := hg1.1
          match wb, this with
          | [x], _ => exact ⟨x, rfl⟩
        obtain ⟨hx0, hx1⟩ := hg1.2 x (List.mem_cons_self ..)
        have hgd : ([x] : List Int).getD 0 0 = x := rfl
        rw [hgd] at hgb
        obtain ⟨b2, a2, e2v⟩ := s2
        have e20 : e2v = 0 := he2
        subst e20
        by_cases hx64 : x > 64
        · rw [if_pos (.inr hx64)] at hgb
          have HN : Aside0 (gF bs n = none) := ⟨by rw [← HG1.out, hgb]⟩
          clear hgb HG1 h1 h2 hok hok1 hok2 e1 e2 hds hdl
          go_wp2_with (first | (go_at_call 123; ((with_reducible refine (HInt.out _ HR0.out).mono ?_)); rintro e wa ⟨rfl, hra, hga⟩; have HRa := Aside0.mk hra; clear hra hga) | (go_at_call 67; ((with_reducible refine (HBy1.out _ HRa.out).mono ?_)); rintro e wb2 ⟨vb, rfl, hob, hrb, hgb⟩; have HRb := Aside0.mk hrb; have HOb := Aside0.mk hob; obtain ⟨A2, c2, rfl, hc2, hC2⟩ := hob.reads; obtain ⟨ad2, rfl, hx2⟩ := Kd.at_int hC2 0 (by simp) (by simp); have hx2 : wb2.cell? ad2 = some (.int .u8 x) := hx2; have hr2 : wb2.cell? ⟨wo.heap.size, 2, none⟩ = some (.int .i64 0) := blk_cell hrb.v 2; clear hC2 hrb hob hgb))
          go_ret3
          exact ⟨.inl ⟨HN.out, rfl⟩, HB.out.trans (HRb.out.bel.mono HB.out.size)⟩
        · rw [if_neg (fun h => h.elim (fun h => h rfl) hx64)] at hgb
          obtain ⟨wd, rfl⟩ := Int.eq_ofNat_of_zero_le hx0
          rw [Int.toNat_natCast] at hgb
          have hwd : wd ≤ 64 := by omega
          have hmul : wd * k ≤ 64 * k := Nat.mul_le_mul_right _ hwd
          obtain ⟨p, hp⟩ : ∃ p, wd * k = p := ⟨_, rfl⟩
          obtain ⟨q, hq⟩ : ∃ q, (wd * k + 7) / 8 = q := ⟨_, rfl⟩
          have hpi : (wd : Int) * kv = (p : Int) := by rw [← hp, ← hkv]; push_cast; rfl
          have hwx : IntKind.i64.wrap (wd : Int) = (wd : Int) := by rw [IntKind.wrap_i64]; omega
          have hw1 : IntKind.i64.wrap ((wd : Int) * kv) = (p : Int) := by rw [hpi, IntKind.wrap_i64]; omega
          have hw2 : IntKind.i64.wrap ((p : Int) + 7) = (p : Int) + 7 := by rw [IntKind.wrap_i64]; omega
          have hw3 : Int.tdiv ((p : Int) + 7) 8 = (q : Int) := by rw [Int.tdiv_eq_ediv_of_nonneg (by omega)]; omega
          have hw4 : IntKind.i64.wrap (q : Int) = (q : Int) := by rw [IntKind.wrap_i64]; omega
          dsimp only at hgb
          rw [hq] at hgb
          obtain ⟨body, s3, h3⟩ : ∃ body s3, rBytes ⟨b2, a2, 0⟩ (q : Int) = (body, s3) := ⟨_, _, rfl⟩
          have HBy2 : Aside0 (∀ W, Rf wo W wo.heap.size A' (c - at0) ⟨b2, a2, 0⟩ → Calls Try.prog 67 #[.pointer (some ⟨wo.heap.size, 0, none⟩), .int .i64 (q : Int)] W fun e w' => ∃ v, e = .returned v ∧ Lx .u8 5 w' W.heap.size v body ∧ Rf wo w' wo.heap.size A' (c - at0) s3 ∧ W.grownBy w' (some wo.heap.size)) := ⟨fun W hW => by
            have := QBytes_calls wo wo.heap.size A' (c - at0) ⟨b2, a2, 0⟩ q W hW
            rw [h3] at this
            exact this⟩
          have e3 := rBytes_bs ⟨b2, a2, 0⟩ (q : Int)
          have hok3 := rBytes_ok hok2 (q : Int)
          rw [h3] at hgb e3 hok3
          dsimp only at hgb e3 hok3
          have hmost : ¬ (64 : Int) < (wd : Int) := by omega
          by_cases he3 : s3.e = 0
          · have hbg := rBytes_good (n := q) hok2 (by rw [h3]; exact he3)
            rw [h3] at hbg
            dsimp only at hbg
            rw [if_neg (fun h => h he3)] at hgb
            obtain ⟨b3, a3, e3v⟩ := s3
            have e30 : e3v = 0 := he3
            subst e30
            have hbl : body.length ≤ 140737488355328 := by rw [hbg.1]; omega
            have HU := fun (W : World) Az cz (hC : (Kd.int .u8).C W Az body.length body) (hcz : body.length ≤ cz) => (unb_ev body wd k hbg.2 hbl hwd (by omega)).rounds
            cases huf : unbitsF body wd k with
            | none =>
              rw [huf] at hgb
              dsimp only at hgb
              have HN : Aside0 (gF bs n = none) := ⟨by rw [← HG1.out, hgb]⟩
              have HU : Aside0 (∀ W Az cz, (Kd.int .u8).C W Az body.length body → body.length ≤ cz → Calls Try.prog 124 #[.slice Az body.length cz, .int .i64 (wd : Int), .int .i64 kv] W fun e w' => ∃ v, e = .returned (.tuple #[v, .int .i64 20]) ∧ (∃ Au cu, v = .slice Au 0 cu) ∧ Below W.heap.size W w') := ⟨fun W Az cz hC hcz => by
                obtain ⟨kk, hkk⟩ := (unb_ev body wd k hbg.2 hbl hwd (by omega)).rounds
                unfold unbR at hkk
                rw [huf] at hkk
                rw [hkv] at hkk
                refine (lecternref03_Unbits.calls kk Az cz body _ _ _ _ W hC hcz hkk).mono ?_
                rintro e w' ⟨v, rfl, hv, hb⟩
                obtain ⟨Au, cu, rfl⟩ := Kd.R_slice hv
                exact ⟨_, rfl, ⟨Au, cu, rfl⟩, hb⟩⟩
              clear hgb HG1 h1 h2 h3 hok hok1 hok2 hok3 e1 e2 e3 hds hdl hg1 hbg huf hpi hmul
              go_wp2_with (first | (go_at_call 124; ((with_reducible refine (HU.out _ _ _ HC3.out hc3).mono ?_)); rintro e w5 ⟨v5, rfl, ⟨A5, c5, rfl⟩, hb5⟩; have HB5 := Aside0.mk hb5; clear hb5) | (go_at_call 67; ((with_reducible refine (HBy2.out _ HRb.out).mono ?_)); rintro e w3 ⟨vc, rfl, hoc, hrc, hgc⟩; obtain ⟨A3, c3, rfl, hc3, hC3⟩ := hoc.reads; have HC3 := Aside0.mk hC3; have HRc := Aside0.mk hrc; have HOc := Aside0.mk (Lax.grown HOb.out hgc (fun k hk e => by injection e with e; have h1 := Lax.base_le HOb.out k hk; have h2 := HRa.out.lt; omega)); have hx3 : w3.cell? ad2 = some (.int .u8 (wd : Int)) := Lx.cell1 HOc.out; have hr3 : w3.cell? ⟨wo.heap.size, 2, none⟩ = some (.int .i64 0) := blk_cell hrc.v 2; clear hoc hrc hgc hC3) | (go_at_call 123; ((with_reducible refine (HInt.out _ HR0.out).mono ?_)); rintro e wa ⟨rfl, hra, hga⟩; have HRa := Aside0.mk hra; clear hra hga) | (go_at_call 67; ((with_reducible refine (HBy1.out _ HRa.out).mono ?_)); rintro e wb2 ⟨vb, rfl, hob, hrb, hgb⟩; have HRb := Aside0.mk hrb; have HOb := Aside0.mk hob; obtain ⟨A2, c2, rfl, hc2, hC2⟩ := hob.reads; obtain ⟨ad2, rfl, hx2⟩ := Kd.at_int hC2 0 (by simp) (by simp); have hx2 : wb2.cell? ad2 = some (.int .u8 (wd : Int)) := hx2; have hr2 : wb2.cell? ⟨wo.heap.size, 2, none⟩ = some (.int .i64 0) := blk_cell hrb.v 2; clear hC2 hrb hob hgb))
              go_ret3
              exact ⟨.inl ⟨HN.out, rfl⟩, HB.out.trans ((HRc.out.bel.trans (HB5.out.mono HRc.out.bel.size)).mono HB.out.size)⟩
            | some ab =>
              rw [huf] at hgb
              dsimp only at hgb
              obtain ⟨xs, hxs⟩ : ∃ xs, (ab.map fun u => wrap64 (least + u)) = xs := ⟨_, rfl⟩
              have habl : ab.length = k := by
                unfold unbitsF at huf
                split at huf
                · cases huf
                · split at huf
                  · cases huf
                  · injection huf with huf
                    rw [← huf]; simp [unbitsL]
              have habr : ∀ u ∈ ab, 0 ≤ u ∧ u < 18446744073709551616 := by
                unfold unbitsF at huf
                split at huf
                · cases huf
                · split at huf
                  · cases huf
                  · injection huf with huf
                    intro u hu
                    rw [← huf] at hu
                    exact unbitsL_range hwd u hu
              have hxl : xs.length = k := by rw [← hxs, List.length_map, habl]
              have hxr : ∀ x ∈ xs, -9223372036854775808 ≤ x ∧ x ≤ 9223372036854775807 := by
                intro x hx
                rw [← hxs] at hx
                obtain ⟨u, _, rfl⟩ := List.mem_map.1 hx
                exact wrap64_range _
              have HU : Aside0 (∀ W Az cz, (Kd.int .u8).C W Az body.length body → body.length ≤ cz → Calls Try.prog 124 #[.slice Az body.length cz, .int .i64 (wd : Int), .int .i64 kv] W fun e w' => ∃ v, e = .returned (.tuple #[v, .int .i64 0]) ∧ (Kd.int .u64).R 78 w' W.heap.size (fun _ => True) v ab ∧ Below W.heap.size W w') := ⟨fun W Az cz hC hcz => by
                obtain ⟨kk, hkk⟩ := (unb_ev body wd k hbg.2 hbl hwd (by omega)).rounds
                unfold unbR at hkk
                rw [huf] at hkk
                rw [hkv] at hkk
                exact lecternref03_Unbits.calls kk Az cz body _ _ _ _ W hC hcz hkk⟩
              obtain ⟨fm, hfm⟩ : ∃ fm, packOne xs = fm := ⟨_, rfl⟩
              have HOn : Aside0 (∀ W Ax cx, (Kd.int .i64).C W Ax xs.length xs → xs.length ≤ cx → Calls Try.prog 78 #[.slice Ax xs.length cx] W fun e w' => ∃ v, e = .returned v ∧ (Kd.int .u8).R 5 w' W.heap.size (fun _ => True) v fm ∧ Below W.heap.size W w') := ⟨fun W Ax cx hC hcx => by
                obtain ⟨kk, hkk⟩ := (one_ev xs (by omega) (by omega) hxr).rounds
                rw [hfm] at hkk
                exact lecternref03_one.calls kk Ax cx xs fm W hC hcx hkk⟩
              rw [hxs, hfm] at hgb
              have ha3 := hok3.le
              dsimp only at ha3 e3 e2
              rw [e3, e2, e1] at ha3
              have HGB := Aside0.mk hgb
              have HABL := Aside0.mk habl
              have HAR := Aside0.mk habr
              have HXS := Aside0.mk hxs
              have HXL := Aside0.mk hxl
              have HDS := Aside0.mk hds
              have HHM := Aside0.mk hm
              have HKV := Aside0.mk hkv
              have HLRR := Aside0.mk hlr
              have hnk : k ≤ nr := by omega
              clear hgb h1 h2 h3 hok hok1 hok2 hok3 e1 e2 e3 hds hg1 hbg huf hpi hmul hxr hfm habl habr hxs hxl
              go_wp2_with (first | (go_at_call 124; ((with_reducible refine (HU.out _ _ _ HC3.out hc3).mono ?_)); rintro e w5 ⟨v5, rfl, ho5, hb5⟩; obtain ⟨A5, c5, rfl⟩ := Kd.R_slice ho5; have HC5 := Aside0.mk ho5; have HR5 := Aside0.mk (HRc.out.below hb5); clear ho5 hb5) | (go_at_call 67; ((with_reducible refine (HBy2.out _ HRb.out).mono ?_)); rintro e w3 ⟨vc, rfl, hoc, hrc, hgc⟩; obtain ⟨A3, c3, rfl, hc3, hC3⟩ := hoc.reads; have HC3 := Aside0.mk hC3; have HRc := Aside0.mk hrc; have HOc := Aside0.mk (Lax.grown HOb.out hgc (fun k hk e => by injection e with e; have h1 := Lax.base_le HOb.out k hk; have h2 := HRa.out.lt; omega)); have hx3 : w3.cell? ad2 = some (.int .u8 (wd : Int)) := Lx.cell1 HOc.out; have hr3 : w3.cell? ⟨wo.heap.size, 2, none⟩ = some (.int .i64 0) := blk_cell hrc.v 2; clear hoc hrc hgc hC3) | (go_at_call 123; ((with_reducible refine (HInt.out _ HR0.out).mono ?_)); rintro e wa ⟨rfl, hra, hga⟩; have HRa := Aside0.mk hra; clear hra hga) | (go_at_call 67; ((with_reducible refine (HBy1.out _ HRa.out).mono ?_)); rintro e wb2 ⟨vb, rfl, hob, hrb, hgb⟩; have HRb := Aside0.mk hrb; have HOb := Aside0.mk hob; obtain ⟨A2, c2, rfl, hc2, hC2⟩ := hob.reads; obtain ⟨ad2, rfl, hx2⟩ := Kd.at_int hC2 0 (by simp) (by simp); have hx2 : wb2.cell? ad2 = some (.int .u8 (wd : Int)) := hx2; have hr2 : wb2.cell? ⟨wo.heap.size, 2, none⟩ = some (.int .i64 0) := blk_cell hrb.v 2; clear hC2 hrb hob hgb))
              clear HR0 HInt HBy1 HBy2 HU HC3 HOb HOc HRa HRb HRc hx2 hx3 hr2 hr3 hw1 hw2 hw3 hw4 hwx
              go_loopg [16, 17] ab.length (fun kq2 v16 v17 w' => ∃ j : Nat, v17 = .int .i64 (j : Int) ∧ Aside0 (j + kq2 = ab.length) ∧ Aside0 (Lx .i64 2 w' wo.heap.size v16 ((ab.take j).map fun u => wrap64 (least + u))) ∧ Aside0 (Rf wo w' wo.heap.size A' (c - at0) ⟨b3, a3, 0⟩) ∧ Aside0 ((Kd.int .u64).R 78 w' w3.heap.size (fun _ => True) (.slice A5 ab.length c5) ab))
              case atStart => exact ⟨0, rfl, ⟨by omega⟩, ⟨by simpa using Lx.nil .i64 _ _ 2⟩, HR5, HC5⟩
              case round =>
                clear HR5 HC5
                obtain ⟨j, rfl, hj, HX, HR5, HC5⟩ := hrel
                by_cases hjl : j < ab.length
                · obtain ⟨ad5, rfl, hx5⟩ := Kd.at_int (Kd.R_reads' HC5.out).2.2 (j : Int) (by omega) (by omega)
                  rw [Int.toNat_natCast] at hx5
                  have htk := take_rd ab j hjl
                  have hmem : ab.getD j 0 ∈ ab := by rw [List.getD_eq_getElem?_getD, List.getElem?_eq_getElem hjl]; exact List.getElem_mem hjl
                  obtain ⟨u, hu⟩ : ∃ u, rd ab j = u := ⟨_, rfl⟩
                  have hu2 : ab.getD j 0 = u := by rw [← hu]; unfold rd; rw [Int.toNat_natCast]
                  rw [hu] at hx5
                  rw [hu2] at hmem htk
                  obtain ⟨hu0, hu1⟩ := HAR.out u hmem
                  have HTK := Aside0.mk htk
                  have hjk : (j : Int) < kv := by have := HABL.out; omega
                  have hj64 : j < 1048576 := by have := HABL.out; omega
                  obtain ⟨z, hz⟩ : ∃ z, wrap64 (least + u) = z := ⟨_, rfl⟩
                  have hwz : IntKind.i64.wrap (IntKind.u64.wrap (IntKind.u64.wrap least + u)) = z := by rw [← hz, wrap_u64, wrap_u64, IntKind.wrap_i64]; unfold wrap64; omega
                  have HZ := Aside0.mk hz
                  obtain ⟨ls, hls⟩ : ∃ ls, ((ab.take j).map fun u => wrap64 (least + u)) = ls := ⟨_, rfl⟩
                  rw [hls] at HX
                  have HLS := Aside0.mk hls
                  have HLL : Aside0 (ls.length ≤ 1048576) := ⟨by
                    have h1 := congrArg List.length hls
                    rw [List.length_map, List.length_take] at h1
                    omega⟩
                  clear hls htk hmem hu hu2 hz
                  go_wp2_with ((with_reducible refine gate_builtin (b := .append) (xs := #[.tmp 88, .tmp 97]) rfl ?_); at_builtin; refine Lx.append_oneN (w0 := wo) .i64 wo.heap.size rfl (.tmp 88) (.tmp 97) 85 2 8 rfl Try.underlying85 info2 (by decide) u16 ls z wr.heap.size ?aN rfl rfl ?aO ?aB ?aS ?aL ?_; (case aN => first | rfl | simp); (case aO => exact HX.out); (case aB => exact HR5.out.bel); (case aS => exact HR5.out.bel.size); (case aL => have := HLL.out; omega); intro v9 w9 ho9 hb9 hg9 _; have HO9 := Aside0.mk ho9; have HR9 := Aside0.mk (HR5.out.grown hg9 (HX.out.own_ne HR5.out.v (by decide)) hb9); have HC9 := Aside0.mk (Kd.R_over' HC5.out (Lax.typed HX.out) (by decide) hg9); clear ho9 hb9 hg9)
                  go_roundg (gk - 1)
                  case measure => have := hj.out; omega
                  case rel => exact ⟨j + 1, by first | rfl | (simp; done) | (simp; unfold wrap64; omega), ⟨by have := hj.out; omega⟩, ⟨by rw [HTK.out, List.map_append, HLS.out, List.map_cons, List.map_nil, HZ.out]; exact HO9.out⟩, HR9, HC9⟩
                · have hje : j = ab.length := by have := hj.out; omega
                  have htk : ab.take j = ab := by rw [hje, List.take_length]
                  rw [htk, HXS.out] at HX
                  obtain ⟨Ax, cx, rfl, hcx, hCx⟩ := HX.out.reads
                  have HCx := Aside0.mk hCx
                  have hjk : ¬ (j : Int) < kv := by have := HABL.out; have := HKV.out; omega
                  clear htk hCx
                  by_cases hfl : fm.length = a3
                  · subst hfl
                    go_wp2_with (go_at_call 78; ((with_reducible refine (HOn.out _ _ _ HCx.out hcx).mono ?_)); rintro e w7 ⟨v7, rfl, ho7, hb7⟩; obtain ⟨A7, c7, rfl⟩ := Kd.R_slice ho7; have HC7 := Aside0.mk (Kd.R_reads' ho7).2.2; have HR7 := Aside0.mk (HR5.out.below hb7); have HX7 := Aside0.mk (Lx.below HX.out hb7); have hr71 : w7.cell? ⟨wo.heap.size, 1, none⟩ = some (.int .i64 (fm.length : Int)) := blk_cell (HR5.out.below hb7).v 1; clear ho7 hb7)
                    have HMF := Aside0.mk (Kd.C_max HC7.out)
                    clear HX HR5 HC5 HCx hr71
                    go_loopg [19] fm.length (fun kq3 v19 w' => ∃ i : Nat, v19 = .int .i64 (i : Int) ∧ Aside0 (i + kq3 = fm.length) ∧ Aside0 (Below w7.heap.size w7 w') ∧ Aside0 ((fm.drop i = (ds.take fm.length).drop i) ↔ fm = ds.take fm.length))
                    case atStart => exact ⟨0, rfl, ⟨by omega⟩, ⟨Below.refl _ _⟩, ⟨by rw [List.drop_zero, List.drop_zero]⟩⟩
                    case round =>
                      obtain ⟨i, rfl, hi, HZ, HE⟩ := hrel
                      by_cases hil : i < fm.length
                      · have hdi : at0 + i < bs.length := by omega
                        obtain ⟨ad7, rfl, hx7⟩ := Kd.at_int (Kd.C_below HC7.out HZ.out) (i : Int) (by omega) (by omega)
                        rw [Int.toNat_natCast] at hx7
                        obtain ⟨adb, rfl, hxb⟩ := Kd.at_int (Kd.C_below H.out (HB.out.trans ((HR7.out.bel.trans (HZ.out.mono HR7.out.bel.size)).mono HB.out.size))) ((at0 + i : Nat) : Int) (by omega) (by omega)
                        rw [Int.toNat_natCast] at hxb
                        have e5 : rd bs ((at0 + i : Nat) : Int) = rd ds (i : Int) := by
                          rw [← HDS.out]
                          unfold rd
                          rw [Int.toNat_natCast, Int.toNat_natCast, List.getD_eq_getElem?_getD, List.getD_eq_getElem?_getD, List.getElem?_drop]
                        have e6 : rd (ds.take fm.length) (i : Int) = rd ds (i : Int) := by
                          unfold rd
                          rw [Int.toNat_natCast, List.getD_eq_getElem?_getD, List.getD_eq_getElem?_getD, List.getElem?_take, if_pos hil]
                        have e7 := rdd fm i hil
                        have e8 := rdd (ds.take fm.length) i (by rw [List.length_take]; omega)
                        rw [e6] at e8
                        rw [e5] at hxb
                        obtain ⟨fv, hfv⟩ : ∃ fv, rd fm (i : Int) = fv := ⟨_, rfl⟩
                        obtain ⟨bv, hbv⟩ : ∃ bv, rd ds (i : Int) = bv := ⟨_, rfl⟩
                        rw [hfv] at hx7 e7
                        rw [hbv] at hxb e8
                        have HE7 := Aside0.mk e7
                        have HE8 := Aside0.mk e8
                        have hwi : IntKind.i64.wrap ((at0 : Int) + (i : Int)) = (at0 : Int) + (i : Int) := by rw [IntKind.wrap_i64]; omega
                        have hbd1 : (0 : Int) ≤ (at0 : Int) + (i : Int) := by omega
                        have hbd2 : (at0 : Int) + (i : Int) < (bs.length : Int) := by omega
                        clear e5 e6 e7 e8 hfv hbv
                        by_cases hfb : fv = bv
                        · subst hfb
                          go_wp2
                          go_quiet (fail)
                          go_wp2
                          go_roundg (fm.length - (i + 1))
                          case measure => have := hi.out; omega
                          case rel => exact ⟨i + 1, by first | rfl | (simp; done) | (have := HMF.out; simp; unfold wrap64; omega), ⟨by have := hi.out; omega⟩, ⟨HZ.out.trans ((pw_below_drewN (Below.refl _ _) nq).mono HZ.out.size)⟩, ⟨by
                            have h1 := HE.out
                            rw [HE7.out, HE8.out] at h1
                            simp only [List.cons.injEq, true_and] at h1
                            exact h1⟩⟩
                        · have HN : Aside0 (gF bs n = none) := ⟨by
                            have h1 := HGB.out
                            rw [if_neg (fun h => by
                              have h2 := HE.out.2 h
                              rw [HE7.out, HE8.out] at h2
                              injection h2 with h2 _
                              exact hfb h2)] at h1
                            rw [← HG1.out, h1]⟩
                          have hfe : (fv == bv) = false := beq_eq_false_iff_ne.mpr hfb
                          go_wp2
                          go_quiet (fail)
                          go_wp2
                          go_ret3
                          exact ⟨.inl ⟨HN.out, rfl⟩, HB.out.trans ((HR7.out.bel.trans ((HZ.out.trans ((pw_below_drewN (Below.refl _ _) nq).mono HZ.out.size)).mono HR7.out.bel.size)).mono HB.out.size)⟩
                      · have hie : i = fm.length := by have := hi.out; omega
                        have hnl : ¬ (i : Int) < (fm.length : Int) := by omega
                        have hgn : Aside0 (gGo bs m (at0 + fm.length) (nr - k) (l ++ xs) = gF bs n) := ⟨by
                          have h1 := HGB.out
                          rw [if_pos (HE.out.1 (by rw [hie, List.drop_eq_nil_of_le (Nat.le_refl _), List.drop_eq_nil_of_le (by rw [List.length_take]; omega)]))] at h1
                          have h2 := HG1.out
                          rw [h1] at h2
                          exact h2⟩
                        have HL8 := Aside0.mk (Lx.below (Lx.below HL.out HR7.out.bel) HZ.out)
                        have HX8 := Aside0.mk (Lx.below HX7.out HZ.out)
                        have HR8 := Aside0.mk (HR7.out.below HZ.out)
                        have HB8 := Aside0.mk (HB.out.trans ((HR7.out.bel.trans (HZ.out.mono HR7.out.bel.size)).mono HB.out.size))
                        have hwa : IntKind.i64.wrap ((at0 : Int) + (fm.length : Int)) = (at0 : Int) + (fm.length : Int) := by rw [IntKind.wrap_i64]; omega
                        have hcc1 := (Lx.reads' HX8.out).2.1
                        clear hie
                        go_wp2_with ((with_reducible refine gate_builtin (b := .append) (xs := #[.tmp 125, .tmp 126]) rfl ?_); at_builtin; refine Lx.append_row (w0 := w) .i64 w.heap.size rfl (.tmp 125) (.tmp 126) 85 2 8 rfl Try.underlying85 info2 (by decide) (.slice A1 l.length c1) l xs Ax xs.length cx rfl rfl HL8.out (Lx.reads' HX8.out).2.2 HB8.out HB8.out.size (by have := HXL.out; omega) ?_; intro v9 w9 ho9 hb9 hg9 _; have HO9 := Aside0.mk ho9; have HB9 := Aside0.mk hb9; have hr91 : w9.cell? ⟨wo.heap.size, 1, none⟩ = some (.int .i64 (fm.length : Int)) := blk_cell (blk_grown HR8.out.v hg9 (HL8.out.own_ne HR8.out.v (by decide))) 1; clear ho9 hb9 hg9)
                        go_roundg m
                        case measure => have := HHM.out; omega
                        case rel => exact ⟨l ++ xs, at0 + fm.length, nr - k, by first | rfl | (simp; done) | (push_cast; rfl), HO9, ⟨by rw [List.length_append]; have := HXL.out; omega⟩, ⟨by have := HK.out; have := HHM.out; omega⟩, ⟨by omega⟩, hgn, HB9⟩
                  · have HN : Aside0 (gF bs n = none) := ⟨by
                      have h1 := HGB.out
                      rw [if_neg (fun h => hfl (by rw [h, List.length_take]; omega))] at h1
                      rw [← HG1.out, h1]⟩
                    have hfi : ¬ (fm.length : Int) = (a3 : Int) := by omega
                    have hfb : ((fm.length : Int) == (a3 : Int)) = false := beq_eq_false_iff_ne.mpr hfi
                    go_wp2_with (go_at_call 78; ((with_reducible refine (HOn.out _ _ _ HCx.out hcx).mono ?_)); rintro e w7 ⟨v7, rfl, ho7, hb7⟩; obtain ⟨A7, c7, rfl⟩ := Kd.R_slice ho7; have HR7 := Aside0.mk (HR5.out.below hb7); have hr71 : w7.cell? ⟨wo.heap.size, 1, none⟩ = some (.int .i64 (a3 : Int)) := blk_cell (HR5.out.below hb7).v 1; clear ho7 hb7)
                    go_ret3
                    exact ⟨.inl ⟨HN.out, rfl⟩, HB.out.trans (HR7.out.bel.mono HB.out.size)⟩
          · rw [if_pos he3] at hgb
            have HN : Aside0 (gF bs n = none) := ⟨by rw [← HG1.out, hgb]⟩
            have heb : (s3.e == 0) = false := beq_eq_false_iff_ne.mpr he3
            clear hgb HG1 h1 h2 h3 hok hok1 hok2 hok3 e1 e2 e3 hds hdl hg1 hpi hmul
            go_wp2_with (first | (go_at_call 67; ((with_reducible refine (HBy2.out _ HRb.out).mono ?_)); rintro e w3 ⟨vc, rfl, hoc, hrc, hgc⟩; obtain ⟨A3, c3, rfl, hc3, hC3⟩ := hoc.reads; have HC3 := Aside0.mk hC3; have HRc := Aside0.mk hrc; have HOc := Aside0.mk (Lax.grown HOb.out hgc (fun k hk e => by injection e with e; have h1 := Lax.base_le HOb.out k hk; have h2 := HRa.out.lt; omega)); have hx3 : w3.cell? ad2 = some (.int .u8 (wd : Int)) := Lx.cell1 HOc.out; have hr3 : w3.cell? ⟨wo.heap.size, 2, none⟩ = some (.int .i64 s3.e) := blk_cell hrc.v 2; clear hoc hrc hgc hC3) | (go_at_call 123; ((with_reducible refine (HInt.out _ HR0.out).mono ?_)); rintro e wa ⟨rfl, hra, hga⟩; have HRa := Aside0.mk hra; clear hra hga) | (go_at_call 67; ((with_reducible refine (HBy1.out _ HRa.out).mono ?_)); rintro e wb2 ⟨vb, rfl, hob, hrb, hgb⟩; have HRb := Aside0.mk hrb; have HOb := Aside0.mk hob; obtain ⟨A2, c2, rfl, hc2, hC2⟩ := hob.reads; obtain ⟨ad2, rfl, hx2⟩ := Kd.at_int hC2 0 (by simp) (by simp); have hx2 : wb2.cell? ad2 = some (.int .u8 (wd : Int)) := hx2; have hr2 : wb2.cell? ⟨wo.heap.size, 2, none⟩ = some (.int .i64 0) := blk_cell hrb.v 2; clear hC2 hrb hob hgb))
            go_ret3
            exact ⟨.inl ⟨HN.out, rfl⟩, HB.out.trans (HRc.out.bel.mono HB.out.size)⟩
      · rw [if_pos (.inl he2)] at hgb
        have HN : Aside0 (gF bs n = none) := ⟨by rw [← HG1.out, hgb]⟩
        have heb : (s2.e == 0) = false := beq_eq_false_iff_ne.mpr he2
        clear hgb HG1 h1 h2 hok hok1 hok2 e1 e2 hds hdl
        go_wp2_with (first | (go_at_call 123; ((with_reducible refine (HInt.out _ HR0.out).mono ?_)); rintro e wa ⟨rfl, hra, hga⟩; have HRa := Aside0.mk hra; clear hra hga) | (go_at_call 67; ((with_reducible refine (HBy1.out _ HRa.out).mono ?_)); rintro e wb2 ⟨vb, rfl, hob, hrb, hgb⟩; have HRb := Aside0.mk hrb; have hr2 : wb2.cell? ⟨wo.heap.size, 2, none⟩ = some (.int .i64 s2.e) := blk_cell hrb.v 2; obtain ⟨A2, c2, rfl, _, _⟩ := hob.reads; clear hrb hob hgb))
        go_ret3
        exact ⟨.inl ⟨HN.out, rfl⟩, HB.out.trans (HRb.out.bel.mono HB.out.size)⟩
    · have e0 : nr = 0 := by omega
      have HF : Aside0 (gF bs n = some (l, at0)) := ⟨by
        have h1 := HG.out
        have h2 : gk = 0 := by have := HK.out; omega
        rw [h2, gGo] at h1
        exact h1.symm⟩
      clear e0 HG
      go_wp2
      go_ret3
      exact ⟨.inr ⟨l, at0, _, HF.out, rfl, HL.out⟩, HB.out⟩
end Go.Proofs.Ytimlgpfcgklddaa.P
namespace Go.Proofs.Ytimlgpfcgklddaa
open Go.RowKit
def okR (g : Int) (l : List Int) : Bool := l.all fun x => decide (0 ≤ x) && decide (x ≤ g)
/-- So many numbers at the head of bytes, all from 0 to g; the bytes behind. -/
def rowR (bs : List Int) (n : Nat) (g : Int) : Option (List Int × List Int) :=
  if 1048576 < n then none else
  match gF bs n with
  | none => none
  | some (l, m) => if okR g l = true then some (l, bs.drop m) else none
theorem okR_mem {g : Int} {l : List Int} (h : okR g l = true) : ∀ x ∈ l, 0 ≤ x ∧ x ≤ g := by
  intro x hx
  have := List.all_eq_true.1 h x hx
  simp only [Bool.and_eq_true, decide_eq_true_iff] at this
  exact this
theorem rowR_facts {bs : List Int} {n : Nat} {g : Int} {l r : List Int} (hl : bs.length ≤ 140737488355328) (hb : ∀ x ∈ bs, 0 ≤ x ∧ x < 256) (h : rowR bs n g = some (l, r)) : l.length = n ∧ n ≤ 1048576 ∧ (∀ x ∈ l, 0 ≤ x ∧ x ≤ g) ∧ r.length ≤ bs.length ∧ ∀ x ∈ r, 0 ≤ x ∧ x < 256 := by
  unfold rowR at h
  split at h
  · cases h
  · split at h
    · cases h
    · rename_i l' m hg
      split at h
      · rename_i hok
        injection h with h
        injection h with h1 h2
        subst h1; subst h2
        exact ⟨(gF_facts hl hb hg).1, by omega, okR_mem hok, by rw [List.length_drop]; omega, fun x hx => hb x (List.mem_of_mem_drop hx)⟩
      · cases h
theorem rowR_back (l rest : List Int) (g : Int) (hl : l.length ≤ 1048576) (hr : ∀ x ∈ l, 0 ≤ x ∧ x ≤ g) (hg : g ≤ 9223372036854775807) : rowR (packPut l ++ rest) l.length g = some (l, rest) := by
  unfold rowR
  rw [if_neg (by omega), gF_back l rest hl (fun x hx => by have := hr x hx; omega)]
  dsimp only
  rw [if_pos, List.drop_left]
  unfold okR
  rw [List.all_eq_true]
  intro x hx
  have := hr x hx
  simp only [Bool.and_eq_true, decide_eq_true_iff]
  exact this
end Go.Proofs.Ytimlgpfcgklddaa
namespace Go.Proofs.Ytimlgpfcgklddaa.P
open Go.RowKit Go.Shelf Go.Proofs.YtimlgpfcgklddaaW.PrintWords Go.Proofs.YtimlgpfcgklddaaW.PrintLast Go.Proofs.YtimlgpfcgklddaaW.PrintMore
set_option linter.unusedVariables false
set_option linter.unusedSimpArgs false
set_option maxRecDepth 100000 in
set_option maxHeartbeats 2000000 in
theorem row_calls (A : Option Addr) (bs : List Int) (c : Nat) (n : Nat) (g : Int) (w : World) (h : (Kd.int .u8).C w A bs.length bs) (hc : bs.length ≤ c) (hl : bs.length ≤ 140737488355328) (hr : ∀ x ∈ bs, 0 ≤ x ∧ x < 256) (hn : n ≤ 9223372036854775807) :
    Calls Try.prog 68 #[.slice A bs.length c, .int .i64 n, .int .i64 g] w fun e w' => (rowR bs n g = none ∧ e = .returned (.tuple #[.slice none 0 0, .slice none 0 0, .bool false]) ∨ ∃ l r v A' c', rowR bs n g = some (l, r) ∧ e = .returned (.tuple #[v, .slice A' r.length c', .bool true]) ∧ Lx .i64 2 w' w.heap.size v l ∧ r.length ≤ c' ∧ (Kd.int .u8).C w' A' r.length r) ∧ Below w.heap.size w w' := by
  by_cases hbig : 1048576 < n
  · have hq : rowR bs n g = none := by unfold rowR; rw [if_pos hbig]
    have HG : Aside0 (Calls Try.prog 98 #[.slice A bs.length c, .int .i64 n] w fun e w' => e = .returned (.tuple #[.slice none 0 0, .int .i64 0, .int .i64 1]) ∧ w' = w) := ⟨RGet_most A bs.length c n w (by omega)⟩
    have HQ := Aside0.mk hq
    clear h hr hq
    go_enter Try.func68, Try.ntmps68
    go_wp2_with (go_at_call 98; ((with_reducible refine HG.out.mono ?_)); rintro e w1 ⟨rfl, rfl⟩)
    go_ret3
    exact ⟨.inl ⟨HQ.out, rfl⟩, Below.refl _ _⟩
  · have HG := RGet_calls A bs c n w h hc hl hr (by omega)
    cases hg : gF bs n with
    | none =>
      have hq : rowR bs n g = none := by unfold rowR; rw [if_neg hbig, hg]
      have HG1 : Aside0 (Calls Try.prog 98 #[.slice A bs.length c, .int .i64 n] w fun e w' => e = .returned (.tuple #[.slice none 0 0, .int .i64 0, .int .i64 20]) ∧ Below w.heap.size w w') := ⟨HG.mono fun e w' ⟨h1, h2⟩ => by
        rcases h1 with ⟨_, h1⟩ | ⟨l, m, v, h1, _⟩
        · exact ⟨h1, h2⟩
        · rw [hg] at h1; cases h1⟩
      have HQ := Aside0.mk hq
      clear h hr hq HG hg
      go_enter Try.func68, Try.ntmps68
      go_wp2_with (go_at_call 98; ((with_reducible refine HG1.out.mono ?_)); rintro e w1 ⟨rfl, hb⟩; have HB := Aside0.mk hb; clear hb)
      go_ret3
      exact ⟨.inl ⟨HQ.out, rfl⟩, HB.out⟩
    | some r0 =>
      obtain ⟨l, m⟩ := r0
      have hf := gF_facts hl hr hg
      have hq : rowR bs n g = if okR g l = true then some (l, bs.drop m) else none := by unfold rowR; rw [if_neg hbig, hg]
      have HG1 : Aside0 (Calls Try.prog 98 #[.slice A bs.length c, .int .i64 n] w fun e w' => ∃ v, e = .returned (.tuple #[v, .int .i64 (m : Int), .int .i64 0]) ∧ Lx .i64 2 w' w.heap.size v l ∧ Below w.heap.size w w') := ⟨HG.mono fun e w' ⟨h1, h2⟩ => by
        rcases h1 with ⟨h1, _⟩ | ⟨l', m', v, h1, h3, h4⟩
        · rw [hg] at h1; cases h1
        · rw [hg] at h1
          injection h1 with h1
          injection h1 with e1 e2
          subst e1; subst e2
          exact ⟨v, h3, h4, h2⟩⟩
      have HQ := Aside0.mk hq
      have H := Aside0.mk h
      obtain ⟨hl1, hl2, hl3⟩ := hf
      have hll : l.length ≤ 1048576 := by omega
      have HLR := Aside0.mk hl3
      clear h hr hq HG hg hl1 hl3
      go_enter Try.func68, Try.ntmps68
      go_wp2_with (go_at_call 98; ((with_reducible refine HG1.out.mono ?_)); rintro e w1 ⟨v1, rfl, ho, hb⟩; obtain ⟨A1, c1, rfl, hc1, hC1⟩ := ho.reads; have HC1 := Aside0.mk hC1; have HO := Aside0.mk ho; have HB := Aside0.mk hb; clear ho hb hC1)
      go_loopg [12] l.length (fun kq v12 w' => ∃ i : Nat, v12 = .int .i64 (i : Int) ∧ Aside0 (i + kq = l.length) ∧ w' = w1 ∧ Aside0 (okR g (l.take i) = true))
      case atStart => exact ⟨0, rfl, ⟨by omega⟩, rfl, ⟨rfl⟩⟩
      case round =>
        obtain ⟨i, rfl, hi, rfl, HOK⟩ := hrel
        by_cases hil : i < l.length
        · obtain ⟨ad, rfl, hx⟩ := Kd.at_int HC1.out (i : Int) (by omega) (by omega)
          rw [Int.toNat_natCast] at hx
          have htk := take_rd l i hil
          have hmem : l.getD i 0 ∈ l := by rw [List.getD_eq_getElem?_getD, List.getElem?_eq_getElem hil]; exact List.getElem_mem hil
          obtain ⟨x, hx0⟩ : ∃ x, rd l (i : Int) = x := ⟨_, rfl⟩
          have hx2 : l.getD i 0 = x := by rw [← hx0]; unfold rd; rw [Int.toNat_natCast]
          rw [hx0] at hx
          rw [hx2] at htk hmem
          have HTK := Aside0.mk htk
          have HMEM := Aside0.mk hmem
          clear hx0 hx2 htk hmem
          by_cases hlo : x < 0
          · have HN : Aside0 (rowR bs n g = none) := ⟨by rw [HQ.out, if_neg (fun h => by have := okR_mem h x HMEM.out; omega)]⟩
            go_wp2
            go_ret3
            exact ⟨.inl ⟨HN.out, rfl⟩, HB.out⟩
          · by_cases hhi : x > g
            · have HN : Aside0 (rowR bs n g = none) := ⟨by rw [HQ.out, if_neg (fun h => by have := okR_mem h x HMEM.out; omega)]⟩
              go_wp2
              go_ret3
              exact ⟨.inl ⟨HN.out, rfl⟩, HB.out⟩
            · have hhi2 : ¬ g < x := hhi
              go_wp2
              go_roundg (l.length - (i + 1))
              case measure => have := hi.out; omega
              case rel => exact ⟨i + 1, by first | rfl | (simp; done) | (simp; unfold wrap64; omega), ⟨by have := hi.out; omega⟩, rfl, ⟨by
                rw [HTK.out]
                have h1 := HOK.out
                unfold okR at h1 ⊢
                rw [List.all_append, h1, Bool.true_and, List.all_cons, List.all_nil, Bool.and_true, Bool.and_eq_true, decide_eq_true_iff, decide_eq_true_iff]
                omega⟩⟩
        · have hie : i = l.length := by have := hi.out; omega
          have HF : Aside0 (rowR bs n g = some (l, bs.drop m)) := ⟨by
            rw [HQ.out, if_pos]
            have h1 := HOK.out
            rw [hie, List.take_length] at h1
            exact h1⟩
          have hnl : ¬ (i : Int) < (l.length : Int) := by omega
          obtain ⟨A', hA'⟩ : ∃ A', (if c = m then A else Option.map (fun x => x.add m) A) = A' := ⟨_, rfl⟩
          have hbd1 : (m : Int) ≤ (bs.length : Int) := by omega
          have hbd2 : (m : Int) ≤ (c : Int) := by omega
          clear hie
          go_wp2
          go_quiet (fail)
          go_wp2
          go_ret3
          refine ⟨.inr ⟨l, bs.drop m, .slice A1 l.length c1, A', c - m, HF.out, by rw [List.length_drop]; rfl, Lx.below HO.out (pw_below_drewN (Below.refl _ _) _), by rw [List.length_drop]; omega, ?_⟩, HB.out.trans ((pw_below_drewN (Below.refl _ _) _).mono HB.out.size)⟩
          have h1 := C_from (Kd.C_below (Kd.C_below H.out HB.out) (pw_below_drewN (Below.refl _ _) nq)) hc m hl2
          rw [hA'] at h1
          exact h1
end Go.Proofs.Ytimlgpfcgklddaa.P
