/-
Texts of this seat, laid together: P2, D5, P3, D10.
-/
import Derived.BigQuiet
import Derived.Test.YtimlgpfcgklddaaQF12
import Derived.Test.YtimlgpfcgklddaaQD3
import Derived.Test.YtimlgpfcgklddaaQP1
import Derived.Test.YtimlgpfcgklddaaQD8
namespace Go.Proofs.Ytimlgpfcgklddaa
open Go.RowKit Go.Proofs.YtimlgpfcgklddaaW.PrintWords
set_option linter.unusedVariables false
theorem qSize_range {s : RSt} (h : s.ok) {most : Int} (hm : 0 ≤ most) : 0 ≤ (qSize s most).1 ∧ (qSize s most).1 ≤ most := by
  have h1 := numR_facts (s.bs.drop s.at')
  have h2 : 0 ≤ (qsize (s.bs.drop s.at') most).1 ∧ (qsize (s.bs.drop s.at') most).1 ≤ most := by
    unfold qsize
    split
    · exact ⟨by simp, hm⟩
    · exact ⟨h1.1, by omega⟩
  unfold qSize took
  split
  · exact ⟨by simp, hm⟩
  · split
    · exact ⟨by simp, hm⟩
    · exact h2
theorem qSize_ok {s : RSt} (h : s.ok) (most : Int) : (qSize s most).2.ok := by
  have h1 := numR_facts (s.bs.drop s.at')
  have hle := h.le
  refine took_ok h ?_
  have h2 := h1.2.2.2.2
  rw [List.length_drop] at h2
  unfold qsize
  split
  · show (-1 : Int) ≤ _; omega
  · omega
theorem Lx.keepQ {k : IntKind} {e : TypeId} {w w' : World} {base base' : Nat} {v u : Value} {xs : List Int} {ps : List P.S86} (h : Lx k e w base v xs) (hq : Qx w base' u ps) (he : e ≠ 86) (hg : w.grownBy w' u.ownBlock) : Lx k e w' base v xs :=
  Lax.grown h hg fun j hj e1 => by
    obtain ⟨c1, h1⟩ := Lax.typed h j hj
    obtain ⟨_, _, c2, h2⟩ := hq.block j e1.symm
    exact block_ne h1 h2 he
theorem sumF_cons (f : Int) (r : List Int) : sumF (f :: r) = (f + 1) + sumF r := rfl
theorem sumF_le : ∀ (l : List Int), (∀ x ∈ l, 0 ≤ x ∧ x ≤ 1048576) → 0 ≤ sumF l ∧ sumF l ≤ (l.length : Int) * 1048577
  | [], _ => by simp [sumF]
  | f :: r, h => by
    have ih := sumF_le r fun x hx => h x (List.mem_cons_of_mem _ hx)
    have h0 := h f (List.mem_cons_self ..)
    rw [sumF_cons, List.length_cons]
    push_cast
    omega
theorem sumF_take_drop (l : List Int) (i : Nat) : sumF (l.take i) + sumF (l.drop i) = sumF l := by
  unfold sumF
  rw [← List.sum_append, ← List.map_append, List.take_append_drop]
theorem sum_le_mul : ∀ (l : List Int) (b : Int), (∀ x ∈ l, 0 ≤ x ∧ x ≤ b) → 0 ≤ l.sum ∧ l.sum ≤ (l.length : Int) * b
  | [], b, _ => by simp
  | f :: r, b, h => by
    have ih := sum_le_mul r b fun x hx => h x (List.mem_cons_of_mem _ hx)
    have h0 := h f (List.mem_cons_self ..)
    rw [List.sum_cons, List.length_cons]
    push_cast
    rw [Int.add_mul]
    omega
end Go.Proofs.Ytimlgpfcgklddaa
namespace Go.Proofs.Ytimlgpfcgklddaa.P
open Go.RowKit Go.Shelf Go.Proofs.YtimlgpfcgklddaaW.PrintWords Go.Proofs.YtimlgpfcgklddaaW.PrintLast Go.Proofs.YtimlgpfcgklddaaW.PrintMore
set_option linter.unusedVariables false
set_option linter.unusedSimpArgs false
set_option maxRecDepth 100000 in
set_option maxHeartbeats 8000000 in
theorem ROpen_calls (A : Option Addr) (bs : List Int) (c : Nat) (w : World) (h : (Kd.int .u8).C w A bs.length bs) (hc : bs.length ≤ c) (hl : bs.length ≤ 5000) (hr : ∀ x ∈ bs, 0 ≤ x ∧ x < 256) :
    Calls Try.prog 33 #[.slice A bs.length c] w fun e w' => (qOpen bs = none ∧ e = .returned (.tuple #[.slice none 0 0, .int .i64 20]) ∨ ∃ L A' c', qOpen bs = some L ∧ e = .returned (.tuple #[.slice A' L.length c', .int .i64 0]) ∧ L.length ≤ c' ∧ Qx w' w.heap.size (.slice A' L.length c') (L.map to86)) ∧ Below w.heap.size w w' := by
  have H := Aside0.mk h
  have HRB := Aside0.mk hr
  have hok : (⟨bs, 0, 0⟩ : RSt).ok := ⟨Nat.zero_le _, by show bs.length ≤ _; omega, hr⟩
  have HR0 : Aside0 (Rf w (w.alloc (.cells #[.slice A bs.length c, .int .i64 0, .int .i64 0] 114)) w.heap.size A c ⟨bs, 0, 0⟩) := ⟨⟨blk_new w _, h, hc, hok, Nat.le_refl _, below_alloc (Below.refl _ _) _⟩⟩
  have hnr := qSize_range hok (most := 16384) (by decide)
  have hok0 := qSize_ok hok 16384
  have e0 := qSize_bs ⟨bs, 0, 0⟩ 16384
  obtain ⟨nv, st0, h0⟩ : ∃ nv st0, qSize ⟨bs, 0, 0⟩ 16384 = (nv, st0) := ⟨_, _, rfl⟩
  have HQ0 : Aside0 (qOpen bs = match qOpenGo bs nv.toNat ((nv.toNat + 7) / 8) st0 (-1) [] with
    | none => none
    | some (l, st) => if (rEnd st).e ≠ 0 ∨ rightB (-1) 0 l = false ∨ formOf l ≠ bs then none else some l) := ⟨by
    unfold qOpen
    simp only [h0]
    rfl⟩
  rw [h0] at hnr hok0 e0
  dsimp only at hnr hok0 e0
  obtain ⟨n, rfl⟩ := Int.eq_ofNat_of_zero_le hnr.1
  have hn : n ≤ 16384 := by omega
  rw [Int.toNat_natCast] at HQ0
  have HS0 : Aside0 (∀ W, Rf w W w.heap.size A c ⟨bs, 0, 0⟩ → Calls Try.prog 66 #[.pointer (some ⟨w.heap.size, 0, none⟩), .int .i64 16384] W fun e w' => e = .returned (.int .i64 (n : Int)) ∧ Rf w w' w.heap.size A c st0 ∧ W.grownBy w' (some w.heap.size)) := ⟨fun W hW => by
    have := QSize_calls w w.heap.size A c ⟨bs, 0, 0⟩ 16384 W hW (by decide)
    rw [h0] at this
    exact this⟩
  obtain ⟨G, hG⟩ : ∃ G, qOpenGo bs n ((n + 7) / 8) st0 (-1) [] = G := ⟨_, rfl⟩
  rw [hG] at HQ0
  have HG0 := Aside0.mk hG
  have HB0 := Aside0.mk e0
  clear h hr hok h0 hnr hok0 e0 hG
  go_enter Try.func33, Try.ntmps33
  go_wp2_with (go_at_call 66; ((with_reducible refine (HS0.out _ HR0.out).mono ?_)); rintro e wa ⟨rfl, hra, hga⟩; have HRa := Aside0.mk hra; clear hra hga)
  clear HR0 HS0
  go_loopg [6, 7] ((n + 7) / 8) (fun kq v6 v7 w' => ∃ (l : List S58) (last : Int) (st : RSt), v7 = .int .i64 last ∧ Aside0 (Qx w' w.heap.size v6 (l.map to86)) ∧ Aside0 (Rf w w' w.heap.size A c st) ∧ Aside0 (st.bs = bs) ∧ Aside0 (l.length ≤ n) ∧ Aside0 (kq = (n - l.length + 7) / 8) ∧ Aside0 (-1 ≤ last ∧ last ≤ (l.length : Int) * 16385) ∧ Aside0 (∀ p ∈ l, p.f1.length ≤ 1048577) ∧ Aside0 (qOpenGo bs n kq st last l = G))
  case atStart => exact ⟨[], -1, st0, rfl, ⟨Qx.nil _ _⟩, HRa, HB0, ⟨Nat.zero_le _⟩, ⟨by simp⟩, ⟨by omega, by simp⟩, ⟨fun p hp => by cases hp⟩, HG0⟩
  case round =>
    clear HRa HG0 HB0
    obtain ⟨l, last, st, rfl, HX, HR, HBS, HLN, HK, HLA, HPL, HG⟩ := hrel
    obtain ⟨A1, c1, rfl, hc1, hC1⟩ := HX.out.reads
    rw [List.length_map] at hc1 HX
    have hln := HLN.out
    clear hC1
    by_cases hlt : l.length < n
    · obtain ⟨m, hm⟩ : ∃ m, gk = m + 1 := ⟨gk - 1, by have := HK.out; omega⟩
      obtain ⟨k, hk⟩ : ∃ k, min (n - l.length) 8 = k := ⟨_, rfl⟩
      have hk1 : 1 ≤ k := by omega
      have hk2 : k ≤ 8 := by omega
      obtain ⟨kv, hkv⟩ : ∃ kv : Int, (k : Int) = kv := ⟨_, rfl⟩
      have hok := HR.out.ok
      have hzr := qSize_range hok (most := (bs.length : Int)) (by omega)
      have hok1 := qSize_ok hok (bs.length : Int)
      have e1 := qSize_bs st (bs.length : Int)
      obtain ⟨sz, s1, h1⟩ : ∃ sz s1, qSize st (bs.length : Int) = (sz, s1) := ⟨_, _, rfl⟩
      rw [h1] at hzr hok1 e1
      dsimp only at hzr hok1 e1
      have hok2 := qSize_ok hok1 16384
      have e2 := qSize_bs s1 16384
      obtain ⟨x2, s2, h2⟩ : ∃ x2 s2, qSize s1 16384 = (x2, s2) := ⟨_, _, rfl⟩
      rw [h2] at hok2 e2
      dsimp only at hok2 e2
      have hok3 := rBytes_ok hok2 sz
      have e3 := rBytes_bs s2 sz
      obtain ⟨sn, hsn⟩ := Int.eq_ofNat_of_zero_le hzr.1
      subst hsn
      have hgood := fun he => rBytes_good (n := sn) hok2 he
      obtain ⟨bb, s3, h3⟩ : ∃ bb s3, rBytes s2 (sn : Int) = (bb, s3) := ⟨_, _, rfl⟩
      rw [h3] at hok3 e3 hgood
      dsimp only at hok3 e3 hgood
      have HS1 : Aside0 (∀ W, Rf w W w.heap.size A c st → Calls Try.prog 66 #[.pointer (some ⟨w.heap.size, 0, none⟩), .int .i64 (bs.length : Int)] W fun e w' => e = .returned (.int .i64 (sn : Int)) ∧ Rf w w' w.heap.size A c s1 ∧ W.grownBy w' (some w.heap.size)) := ⟨fun W hW => by
        have := QSize_calls w w.heap.size A c st (bs.length : Int) W hW (by omega)
        rw [h1] at this
        exact this⟩
      have HS2 : Aside0 (∀ W, Rf w W w.heap.size A c s1 → Calls Try.prog 66 #[.pointer (some ⟨w.heap.size, 0, none⟩), .int .i64 16384] W fun e w' => e = .returned (.int .i64 x2) ∧ Rf w w' w.heap.size A c s2 ∧ W.grownBy w' (some w.heap.size)) := ⟨fun W hW => by
        have := QSize_calls w w.heap.size A c s1 16384 W hW (by decide)
        rw [h2] at this
        exact this⟩
      have HS3 : Aside0 (∀ W, Rf w W w.heap.size A c s2 → Calls Try.prog 67 #[.pointer (some ⟨w.heap.size, 0, none⟩), .int .i64 (sn : Int)] W fun e w' => ∃ v, e = .returned v ∧ Lx .u8 5 w' W.heap.size v bb ∧ Rf w w' w.heap.size A c s3 ∧ W.grownBy w' (some w.heap.size)) := ⟨fun W hW => by
        have := QBytes_calls w w.heap.size A c s2 (sn : Int) W hW
        rw [h3] at this
        exact this⟩
      have HG1 : Aside0 ((if s3.e ≠ 0 then none else match qRows bb k with
        | none => none
        | some r => qOpenGo bs n m s3 (qPosts r.1 r.2.1 r.2.2 last l).2 (qPosts r.1 r.2.1 r.2.2 last l).1) = G) := ⟨by
        have := HG.out
        rw [hm, qOpenGo] at this
        simp only [h1, h2, h3, hk] at this
        exact this⟩
      have HBS3 : Aside0 (s3.bs = bs) := ⟨by rw [e3, e2, e1]; exact HBS.out⟩
      have hwn : IntKind.i64.wrap ((n : Int) - (l.length : Int)) = (n : Int) - (l.length : Int) := by rw [IntKind.wrap_i64]; omega
      have HOK3 := Aside0.mk hok3
      have HGD := Aside0.mk hgood
      clear HG h1 h2 h3 hok hok1 hok2 hok3 e1 e2 e3 hgood HBS
      by_cases he3 : s3.e = 0
      · obtain ⟨b3, a3, e3v⟩ := s3
        have e30 : e3v = 0 := he3
        subst e30
        have hgd := HGD.out rfl
        have hbl : bb.length ≤ 140737488355328 := by omega
        have HGB := Aside0.mk hgd.2
        have HG2 : Aside0 ((match qRows bb k with
          | none => none
          | some r => qOpenGo bs n m ⟨b3, a3, 0⟩ (qPosts r.1 r.2.1 r.2.2 last l).2 (qPosts r.1 r.2.1 r.2.2 last l).1) = G) := ⟨by
          have h1 := HG1.out
          rw [if_neg (fun h => h rfl)] at h1
          exact h1⟩
        clear HG1 HGD hgd he3
        go_upto_if 54 with (first
          | (go_at_call 67; ((with_reducible refine (HS3.out _ HRb.out).mono ?_)); rintro e w3 ⟨v3, rfl, ho, hr3, hg3⟩; obtain ⟨A9, c9, rfl, hc9, hC9⟩ := ho.reads; have HC9 := Aside0.mk hC9; have HR3 := Aside0.mk hr3; have hre3 : w3.cell? ⟨w.heap.size, 2, none⟩ = some (.int .i64 0) := blk_cell hr3.v 2; have HX3 := Aside0.mk (HX.out.grown (grown_trans HGb.out hg3) (fun k cells e hk => by injection e with e; subst e; exact block_ne hk HR.out.v (by decide)) (fun k cells e hk => by injection e with e; subst e; exact block_ne hk HR.out.v (by decide))); clear ho hr3 hg3 hC9)
          | (go_at_call 66; ((with_reducible refine (HS2.out _ HRa.out).mono ?_)); rintro e wb ⟨rfl, hr2, hg2⟩; have HRb := Aside0.mk hr2; have HGb := Aside0.mk (grown_trans HGa.out hg2); clear hr2 hg2)
          | (go_at_call 66; ((with_reducible refine (HS1.out _ HR.out).mono ?_)); rintro e wa ⟨rfl, hr1, hg1⟩; have HRa := Aside0.mk hr1; have HGa := Aside0.mk hg1; clear hr1 hg1))
        go_cut [9, 10] (fun v9 v10 wc => ∃ A9 c9, v9 = .slice A9 bb.length c9 ∧ bb.length ≤ c9 ∧ v10 = .int .i64 kv ∧ Aside0 ((Kd.int .u8).C wc A9 bb.length bb) ∧ Aside0 (Rf w wc w.heap.size A c ⟨b3, a3, 0⟩) ∧ Aside0 (Qx wc w.heap.size (.slice A1 l.length c1) (l.map to86)))
        case first =>
          by_cases hkc : (8 : Int) < (n : Int) - (l.length : Int)
          · have hkk : kv = 8 := by omega
            go_wp2
            go_meet
            case rel => exact ⟨A9, c9, rfl, hc9, by rw [hkk], HC9, HR3, HX3⟩
          · have hkk : kv = (n : Int) - (l.length : Int) := by omega
            have hkd : decide ((8 : Int) < (n : Int) - (l.length : Int)) = false := decide_eq_false hkc
            go_wp2
            go_meet
            case rel => exact ⟨A9, c9, rfl, hc9, by rw [hkk], HC9, HR3, HX3⟩
        case rest =>
          clear HS1 HS2 HS3 HR HX hwn
          obtain ⟨A9, c9, rfl, hc9, rfl, HC9, HR, HX⟩ := hcut
          have hRow := fun (W : World) (hW : Below wc.heap.size wc W) => row_calls A9 bb c9 k 16384 W (Kd.C_below HC9.out hW) hc9 hbl HGB.out (by omega)
          rw [hkv] at hRow
          cases hr1 : rowR bb k 16384 with
          | none =>
            have HN : Aside0 (qOpen bs = none) := ⟨by
              have h1 := HG2.out
              have e1 : qRows bb k = none := by unfold qRows; rw [hr1]
              rw [e1] at h1
              rw [HQ0.out, ← h1]⟩
            have HR1 : Aside0 (∀ W, Below wc.heap.size wc W → Calls Try.prog 68 #[.slice A9 bb.length c9, .int .i64 kv, .int .i64 16384] W fun e w' => e = .returned (.tuple #[.slice none 0 0, .slice none 0 0, .bool false]) ∧ Below W.heap.size W w') := ⟨fun W hW => (hRow W hW).mono fun e w' ⟨h1, h2⟩ => by
              rcases h1 with ⟨_, h1⟩ | ⟨l', r', v, A', c', h1, _⟩
              · exact ⟨h1, h2⟩
              · rw [hr1] at h1; cases h1⟩
            clear HG2 HQ0 hr1 hRow
            go_wp2_with (go_at_call 68; ((with_reducible refine (HR1.out _ (Below.refl _ _)).mono ?_)); rintro e w4 ⟨rfl, hb⟩; have HB4 := Aside0.mk hb; clear hb)
            go_ret2
            exact ⟨.inl ⟨HN.out, rfl⟩, HR.out.bel.trans (HB4.out.mono HR.out.bel.size)⟩
          | some dr =>
            obtain ⟨docs, r1⟩ := dr
            have hf1 := rowR_facts hbl HGB.out hr1
            have HR1 : Aside0 (∀ W, Below wc.heap.size wc W → Calls Try.prog 68 #[.slice A9 bb.length c9, .int .i64 kv, .int .i64 16384] W fun e w' => ∃ v A' c', e = .returned (.tuple #[v, .slice A' r1.length c', .bool true]) ∧ Lx .i64 2 w' W.heap.size v docs ∧ r1.length ≤ c' ∧ (Kd.int .u8).C w' A' r1.length r1 ∧ Below W.heap.size W w') := ⟨fun W hW => (hRow W hW).mono fun e w' ⟨h1, h2⟩ => by
              rcases h1 with ⟨h1, _⟩ | ⟨l', r', v, A', c', h1, h3, h4, h5, h6⟩
              · rw [hr1] at h1; cases h1
              · rw [hr1] at h1
                injection h1 with h1
                injection h1 with e1 e2
                subst e1; subst e2
                exact ⟨v, A', c', h3, h4, h5, h6, h2⟩⟩
            have hRow2 := fun (W : World) A5 c5 (hC : (Kd.int .u8).C W A5 r1.length r1) (hc5 : r1.length ≤ c5) => row_calls A5 r1 c5 k 1048576 W hC hc5 (by omega) hf1.2.2.2.2 (by omega)
            rw [hkv] at hRow2
            have HDF := Aside0.mk hf1
            clear hRow hf1
            cases hr2 : rowR r1 k 1048576 with
            | none =>
              have HN : Aside0 (qOpen bs = none) := ⟨by
                have h1 := HG2.out
                have e1 : qRows bb k = none := by unfold qRows; rw [hr1]; dsimp only; rw [hr2]
                rw [e1] at h1
                rw [HQ0.out, ← h1]⟩
              have HR2 : Aside0 (∀ W A5 c5, (Kd.int .u8).C W A5 r1.length r1 → r1.length ≤ c5 → Calls Try.prog 68 #[.slice A5 r1.length c5, .int .i64 kv, .int .i64 1048576] W fun e w' => e = .returned (.tuple #[.slice none 0 0, .slice none 0 0, .bool false]) ∧ Below W.heap.size W w') := ⟨fun W A5 c5 hC hc5 => (hRow2 W A5 c5 hC hc5).mono fun e w' ⟨h1, h2⟩ => by
                rcases h1 with ⟨_, h1⟩ | ⟨l', r', v, A', c', h1, _⟩
                · exact ⟨h1, h2⟩
                · rw [hr2] at h1; cases h1⟩
              clear HG2 HQ0 hr1 hr2 hRow2
              go_wp2_with (first
                | (go_at_call 68; ((with_reducible refine (HR2.out _ A5 c5 HC5.out hc5).mono ?_)); rintro e w5 ⟨rfl, hb⟩; have HB5 := Aside0.mk hb; clear hb)
                | (go_at_call 68; ((with_reducible refine (HR1.out _ (Below.refl _ _)).mono ?_)); rintro e w4 ⟨v4, A5, c5, rfl, ho, hc5, hC, hb⟩; obtain ⟨Ad, cd, rfl, _, _⟩ := ho.reads; have HC5 := Aside0.mk hC; have HB4 := Aside0.mk hb; clear ho hC hb))
              go_ret2
              exact ⟨.inl ⟨HN.out, rfl⟩, HR.out.bel.trans ((HB4.out.trans (HB5.out.mono HB4.out.size)).mono HR.out.bel.size)⟩
            | some fr =>
              obtain ⟨freqs, r2⟩ := fr
              have hf2 := rowR_facts (by have := HDF.out.2.2.2.1; omega) HDF.out.2.2.2.2 hr2
              have HR2 : Aside0 (∀ W A5 c5, (Kd.int .u8).C W A5 r1.length r1 → r1.length ≤ c5 → Calls Try.prog 68 #[.slice A5 r1.length c5, .int .i64 kv, .int .i64 1048576] W fun e w' => ∃ v A' c', e = .returned (.tuple #[v, .slice A' r2.length c', .bool true]) ∧ Lx .i64 2 w' W.heap.size v freqs ∧ r2.length ≤ c' ∧ (Kd.int .u8).C w' A' r2.length r2 ∧ Below W.heap.size W w') := ⟨fun W A5 c5 hC hc5 => (hRow2 W A5 c5 hC hc5).mono fun e w' ⟨h1, h2⟩ => by
                rcases h1 with ⟨h1, _⟩ | ⟨l', r', v, A', c', h1, h3, h4, h5, h6⟩
                · rw [hr2] at h1; cases h1
                · rw [hr2] at h1
                  injection h1 with h1
                  injection h1 with e1 e2
                  subst e1; subst e2
                  exact ⟨v, A', c', h3, h4, h5, h6, h2⟩⟩
              have HFF := Aside0.mk hf2
              have HR1E := Aside0.mk hr1
              have HR2E := Aside0.mk hr2
              obtain ⟨all, hall⟩ : ∃ all : Nat, (sumF freqs).toNat = all := ⟨_, rfl⟩
              have hsb := sumF_le freqs hf2.2.2.1
              have HALL := Aside0.mk hall
              have HSB := Aside0.mk hsb
              have hfl := hf2.1
              have hdl := HDF.out.1
              have hallb : all ≤ 8388616 := by rw [hfl] at hsb; omega
              clear hRow2 hr1 hr2 hf2 hsb hall
              go_wp2_with (first
                | (go_at_call 68; ((with_reducible refine (HR2.out _ A5 c5 HC5.out hc5).mono ?_)); rintro e w5 ⟨v5, A6, c6, rfl, ho, hc6, hC, hb⟩; obtain ⟨Af, cf, rfl, hcf, hCf⟩ := ho.reads; have HCf := Aside0.mk hCf; have HLf5 := Aside0.mk (Lx.lower ho (Nat.le_trans HR.out.bel.size HB4.out.size)); have HLd5 := Aside0.mk (Lx.below HLd.out hb); have HC6 := Aside0.mk hC; have HB5 := Aside0.mk (HB4.out.trans (hb.mono HB4.out.size)); clear ho hC hb hCf)
                | (go_at_call 68; ((with_reducible refine (HR1.out _ (Below.refl _ _)).mono ?_)); rintro e w4 ⟨v4, A5, c5, rfl, ho, hc5, hC, hb⟩; obtain ⟨Ad, cd, rfl, hcd, hCd⟩ := ho.reads; have HLd := Aside0.mk (Lx.lower ho HR.out.bel.size); have HC5 := Aside0.mk hC; have HB4 := Aside0.mk hb; clear ho hC hb hCd))
              clear HR1 HR2 HC5 HLd HB4
              have HR5 := Aside0.mk (HR.out.below HB5.out)
              have HX5 := Aside0.mk (HX.out.below HB5.out)
              clear HR HX HC9 HB5
              go_loopg [15, 16] freqs.length (fun kq v15 v16 w' => ∃ i : Nat, v16 = .int .i64 (i : Int) ∧ v15 = .int .i64 (sumF (freqs.take i)) ∧ Aside0 (i + kq = freqs.length) ∧ w' = w5)
              case atStart => exact ⟨0, rfl, rfl, ⟨by omega⟩, rfl⟩
              case round =>
                obtain ⟨i, rfl, rfl, hi, rfl⟩ := hrel
                by_cases hil : i < freqs.length
                · obtain ⟨adf, rfl, hxf⟩ := Kd.at_int HCf.out (i : Int) (by omega) (by omega)
                  rw [Int.toNat_natCast] at hxf
                  have htk := take_rd freqs i hil
                  have hmem : freqs.getD i 0 ∈ freqs := by rw [List.getD_eq_getElem?_getD, List.getElem?_eq_getElem hil]; exact List.getElem_mem hil
                  obtain ⟨f, hf0⟩ : ∃ f, rd freqs (i : Int) = f := ⟨_, rfl⟩
                  have hf2 : freqs.getD i 0 = f := by rw [← hf0]; unfold rd; rw [Int.toNat_natCast]
                  rw [hf0] at hxf
                  rw [hf2] at htk hmem
                  have hfb := HFF.out.2.2.1 f hmem
                  have hst := sumF_le (freqs.take i) (fun x hx => HFF.out.2.2.1 x (List.mem_of_mem_take hx))
                  rw [List.length_take] at hst
                  have hsu : sumF (freqs.take (i + 1)) = sumF (freqs.take i) + f + 1 := by
                    rw [htk]
                    unfold sumF
                    rw [List.map_append, List.sum_append]
                    simp only [List.map_cons, List.map_nil, List.sum_cons, List.sum_nil]
                    omega
                  obtain ⟨si, hsi⟩ : ∃ si, sumF (freqs.take i) = si := ⟨_, rfl⟩
                  rw [hsi] at hst hsu ⊢
                  have hkl : (i : Int) < kv := by omega
                  have hsw1 : IntKind.i64.wrap (si + f) = si + f := by rw [IntKind.wrap_i64]; omega
                  have hsw2 : IntKind.i64.wrap (si + f + 1) = si + f + 1 := by rw [IntKind.wrap_i64]; omega
                  have HSU := Aside0.mk hsu
                  clear htk hmem hf0 hf2 hsu hsi
                  go_wp2
                  go_roundg (freqs.length - (i + 1))
                  case measure => have := hi.out; omega
                  case rel => exact ⟨i + 1, by first | rfl | (simp; done) | (simp; unfold wrap64; omega), by rw [HSU.out], ⟨by have := hi.out; omega⟩, rfl⟩
                · have hie : i = freqs.length := by have := hi.out; omega
                  have htk : sumF (freqs.take i) = (all : Int) := by
                    rw [hie, List.take_length, ← HALL.out]
                    have := HSB.out.1
                    omega
                  rw [htk]
                  have hkl : ¬ (i : Int) < kv := by omega
                  clear htk hie
                  have hr2b : r2.length ≤ 140737488355328 := by have := HDF.out.2.2.2.1; have := HFF.out.2.2.2.1; omega
                  have hRow3 := row_calls A6 r2 c6 all 1048576 wr HC6.out hc6 hr2b HFF.out.2.2.2.2 (by omega)
                  cases hr3 : rowR r2 all 1048576 with
                  | none =>
                    have HN : Aside0 (qOpen bs = none) := ⟨by
                      have h1 := HG2.out
                      have e1 : qRows bb k = none := by unfold qRows; rw [HR1E.out]; dsimp only; rw [HR2E.out]; dsimp only; rw [HALL.out, hr3]
                      rw [e1] at h1
                      rw [HQ0.out, ← h1]⟩
                    have HR3 : Aside0 (Calls Try.prog 68 #[.slice A6 r2.length c6, .int .i64 (all : Int), .int .i64 1048576] wr fun e w' => e = .returned (.tuple #[.slice none 0 0, .slice none 0 0, .bool false]) ∧ Below wr.heap.size wr w') := ⟨hRow3.mono fun e w' ⟨h1, h2⟩ => by
                      rcases h1 with ⟨_, h1⟩ | ⟨l', r', v, A', c', h1, _⟩
                      · exact ⟨h1, h2⟩
                      · rw [hr3] at h1; cases h1⟩
                    clear HG2 HQ0 hRow3 hr3
                    go_wp2_with (go_at_call 68; ((with_reducible refine HR3.out.mono ?_)); rintro e w6 ⟨rfl, hb⟩; have HB6 := Aside0.mk hb; clear hb)
                    go_ret2
                    exact ⟨.inl ⟨HN.out, rfl⟩, HR5.out.bel.trans (HB6.out.mono HR5.out.bel.size)⟩
                  | some pr =>
                    obtain ⟨places, r3⟩ := pr
                    have hf3 := rowR_facts hr2b HFF.out.2.2.2.2 hr3
                    have HR3 : Aside0 (Calls Try.prog 68 #[.slice A6 r2.length c6, .int .i64 (all : Int), .int .i64 1048576] wr fun e w' => ∃ v A' c', e = .returned (.tuple #[v, .slice A' r3.length c', .bool true]) ∧ Lx .i64 2 w' wr.heap.size v places ∧ r3.length ≤ c' ∧ Below wr.heap.size wr w') := ⟨hRow3.mono fun e w' ⟨h1, h2⟩ => by
                      rcases h1 with ⟨h1, _⟩ | ⟨l', r', v, A', c', h1, h3, h4, h5, h6⟩
                      · rw [hr3] at h1; cases h1
                      · rw [hr3] at h1
                        injection h1 with h1
                        injection h1 with e1 e2
                        subst e1; subst e2
                        exact ⟨v, A', c', h3, h4, h5, h2⟩⟩
                    by_cases hr3n : r3 = []
                    · have HGQ : Aside0 (qOpenGo bs n m ⟨b3, a3, 0⟩ (qPosts docs freqs places last l).2 (qPosts docs freqs places last l).1 = G) := ⟨by
                        have h1 := HG2.out
                        have e1 : qRows bb k = some (docs, freqs, places) := by unfold qRows; rw [HR1E.out]; dsimp only; rw [HR2E.out]; dsimp only; rw [HALL.out, hr3]; dsimp only; rw [if_pos hr3n]
                        rw [e1] at h1
                        exact h1⟩
                      subst hr3n
                      obtain ⟨Q, hQ⟩ : ∃ Q, qPosts docs freqs places last l = Q := ⟨_, rfl⟩
                      rw [hQ] at HGQ
                      have HQE := Aside0.mk hQ
                      obtain ⟨hpl, _, hpr, _, _⟩ := hf3
                      have HPR := Aside0.mk hpr
                      have HPLL := Aside0.mk hpl
                      clear HG2 hRow3 hr3 hQ hpr hpl
                      go_wp2_with (go_at_call 68; ((with_reducible refine HR3.out.mono ?_)); rintro e w6 ⟨v6, A7, c7, rfl, ho, hc7, hb⟩; obtain ⟨Ap, cp, rfl, hcp, hCp⟩ := ho.reads; have HLp6 := Aside0.mk (Lx.lower ho HR5.out.bel.size); have HLd6 := Aside0.mk (Lx.below HLd5.out hb); have HLf6 := Aside0.mk (Lx.below HLf5.out hb); have HR6 := Aside0.mk (HR5.out.below hb); have HX6 := Aside0.mk (HX5.out.below hb); clear ho hb hCp)
                      clear HR3 HC6 HLd5 HLf5 HCf HR5 HX5
                      go_loopg [6, 7, 18, 19] k (fun kq v6 v7 v18 v19 w' => ∃ (i at0 : Nat) (l' : List S58) (la : Int), v19 = .int .i64 (i : Int) ∧ v18 = .int .i64 (at0 : Int) ∧ v7 = .int .i64 la ∧ Aside0 (i + kq = k) ∧ Aside0 (l'.length = l.length + i) ∧ Aside0 (-1 ≤ la ∧ la ≤ ((l.length + i : Nat) : Int) * 16385) ∧ Aside0 ((at0 : Int) = sumF (freqs.take i)) ∧ Aside0 (∀ p ∈ l', p.f1.length ≤ 1048577) ∧ Aside0 (qPosts (docs.drop i) (freqs.drop i) (places.drop at0) la l' = Q) ∧ Aside0 (Qx w' w.heap.size v6 (l'.map to86)) ∧ Aside0 (Rf w w' w.heap.size A c ⟨b3, a3, 0⟩) ∧ Aside0 (Lx .i64 2 w' w.heap.size (.slice Ad docs.length cd) docs) ∧ Aside0 (Lx .i64 2 w' w.heap.size (.slice Af freqs.length cf) freqs) ∧ Aside0 (Lx .i64 2 w' w.heap.size (.slice Ap places.length cp) places))
                      case atStart => exact ⟨0, 0, l, last, rfl, rfl, rfl, ⟨by omega⟩, ⟨rfl⟩, HLA, ⟨rfl⟩, HPL, ⟨by rw [List.drop_zero, List.drop_zero, List.drop_zero]; exact HQE.out⟩, HX6, HR6, HLd6, HLf6, HLp6⟩
                      case round =>
                        clear HX6 HR6 HLd6 HLf6 HLp6
                        obtain ⟨i, at0, l', la, rfl, rfl, rfl, hi, HLL, HLA, HAT, HPL2, HPG, HX, HR, HLd, HLf, HLp⟩ := hrel
                        by_cases hik : i < k
                        · obtain ⟨ad, rfl, hxd⟩ := Kd.at_int (Lx.reads' HLd.out).2.2 (i : Int) (by omega) (by omega)
                          rw [Int.toNat_natCast] at hxd
                          obtain ⟨af, rfl, hxf⟩ := Kd.at_int (Lx.reads' HLf.out).2.2 (i : Int) (by omega) (by omega)
                          rw [Int.toNat_natCast] at hxf
                          have hdr := rdd docs i (by omega)
                          have hfr := rdd freqs i (by omega)
                          have hdm : rd docs i ∈ docs := List.mem_of_mem_drop (i := i) (by rw [hdr]; exact List.mem_cons_self ..)
                          have hfm : rd freqs i ∈ freqs := List.mem_of_mem_drop (i := i) (by rw [hfr]; exact List.mem_cons_self ..)
                          have hsp := sumF_take_drop freqs i
                          obtain ⟨d, hde⟩ : ∃ d, rd docs (i : Int) = d := ⟨_, rfl⟩
                          obtain ⟨f, hfe⟩ : ∃ f, rd freqs (i : Int) = f := ⟨_, rfl⟩
                          rw [hde] at hxd hdr hdm
                          rw [hfe] at hxf hfr hfm
                          have hdb := HDF.out.2.2.1 d hdm
                          have hfb := HFF.out.2.2.1 f hfm
                          obtain ⟨fn, rfl⟩ := Int.eq_ofNat_of_zero_le hfb.1
                          rw [hdr, hfr, qPosts] at HPG
                          rw [List.headD_cons, List.tail_cons, show ((fn : Int) + 1).toNat = fn + 1 from by omega, List.drop_drop] at HPG
                          rw [hfr, sumF_cons] at hsp
                          have hsd := sumF_le (freqs.drop (i + 1)) (fun x hx => HFF.out.2.2.1 x (List.mem_of_mem_drop hx))
                          have hroom : at0 + (fn + 1) ≤ places.length := by
                            have h1 := HAT.out
                            have h2 := HPLL.out
                            have h3 := HALL.out
                            have h4 := HSB.out.1
                            omega
                          have HAT2 : Aside0 (((at0 + (fn + 1) : Nat) : Int) = sumF (freqs.take (i + 1))) := ⟨by
                            have h1 := HAT.out
                            have h5 := sumF_take_drop freqs (i + 1)
                            push_cast
                            omega⟩
                          obtain ⟨row, hrow⟩ : ∃ row, (places.drop at0).take (fn + 1) = row := ⟨_, rfl⟩
                          rw [hrow] at HPG
                          have hrl : row.length = fn + 1 := by rw [← hrow, List.length_take, List.length_drop]; omega
                          have hrr : ∀ x ∈ row, 0 ≤ x ∧ x ≤ 1048576 := fun x hx => HPR.out x (List.mem_of_mem_drop (List.mem_of_mem_take (by rw [hrow]; exact hx)))
                          have HRR := Aside0.mk hrr
                          have HRL := Aside0.mk hrl
                          have HROW := Aside0.mk hrow
                          have hla := HLA.out
                          have hil : l.length + i ≤ 16384 := by omega
                          have hwl1 : IntKind.i64.wrap (la + 1) = la + 1 := by rw [IntKind.wrap_i64]; omega
                          have hwl2 : IntKind.i64.wrap (la + 1 + d) = la + 1 + d := by rw [IntKind.wrap_i64]; omega
                          have hikv : (i : Int) < kv := by omega
                          obtain ⟨dv, hdv⟩ : ∃ dv, la + 1 + d = dv := ⟨_, rfl⟩
                          have hdvb : -1 ≤ dv ∧ dv ≤ ((l.length + (i + 1) : Nat) : Int) * 16385 := by omega
                          rw [hdv] at hwl2 HPG
                          have HDVB := Aside0.mk hdvb
                          have hw0 : at0 ≤ 8388616 := by have := HPLL.out; omega
                          have hfn : fn ≤ 1048576 := by omega
                          have hxf2 := pw_cell_below (below_alloc (Below.refl wr.heap.size wr) (.cells #[.int .i64 dv, .slice none 0 0] 86)) hxf
                          have HXF := Aside0.mk hxf
                          clear hdr hfr hdm hfm hde hfe hsp hsd hrow hrr hrl hdb hfb hdvb hla hxf
                          go_wp2
                          obtain ⟨wq, rfl⟩ : ∃ wq, wq = wr := ⟨_, rfl⟩
                          clear hxd hxf2 hwl1
                          go_loopg [18, 21, 22] (fn + 1) (fun kq v18 v21 v22 w' => ∃ (j : Nat) (v : Value), v22 = .int .i64 (j : Int) ∧ v18 = .int .i64 ((at0 : Int) + (j : Int)) ∧ v21 = .int .i64 (row.take j).sum ∧ Aside0 (j + kq = fn + 1) ∧ Aside0 (w'.heap[wq.heap.size]? = some (.cells #[.int .i64 dv, v] 86 (0, 0))) ∧ Aside0 (Lx .i64 3 w' wq.heap.size v (sums 0 (row.take j))) ∧ Aside0 (Below wq.heap.size wq w'))
                          case atStart => exact ⟨0, _, rfl, by simp, rfl, ⟨by omega⟩, ⟨blk_new _ _⟩, ⟨Lx.nil _ _ _ _⟩, ⟨below_alloc (Below.refl _ _) _⟩⟩
                          case round =>
                            obtain ⟨j, v, rfl, rfl, rfl, hj, HBX, HLX, HBI⟩ := hrel
                            have hxf3 := pw_cell_below HBI.out HXF.out
                            have hbx0 := blk_cell HBX.out 0
                            have hbx1 := blk_cell HBX.out 1
                            have hbf1 := blk_frozen HBX.out 1
                            by_cases hjf : j < fn + 1
                            · obtain ⟨adp, rfl, hxp⟩ := Kd.at_int (Kd.C_below (Lx.reads' HLp.out).2.2 HBI.out) ((at0 + j : Nat) : Int) (by omega) (by omega)
                              rw [Int.toNat_natCast] at hxp
                              have e5 : rd places ((at0 + j : Nat) : Int) = rd row (j : Int) := by
                                rw [← HROW.out]
                                unfold rd
                                rw [Int.toNat_natCast, Int.toNat_natCast, List.getD_eq_getElem?_getD, List.getD_eq_getElem?_getD, List.getElem?_take, if_pos hjf, List.getElem?_drop]
                              rw [e5] at hxp
                              have htk := take_rd row j (by have := HRL.out; omega)
                              have hxm : row.getD j 0 ∈ row := by rw [List.getD_eq_getElem?_getD, List.getElem?_eq_getElem (by have := HRL.out; omega)]; exact List.getElem_mem _
                              obtain ⟨x, hx0⟩ : ∃ x, rd row (j : Int) = x := ⟨_, rfl⟩
                              have hx2 : row.getD j 0 = x := by rw [← hx0]; unfold rd; rw [Int.toNat_natCast]
                              rw [hx0] at hxp
                              rw [hx2] at htk hxm
                              have hxb := HRR.out x hxm
                              have hsm := sum_le_mul (row.take j) 1048576 (fun y hy => HRR.out y (List.mem_of_mem_take hy))
                              rw [List.length_take] at hsm
                              have hsn : sums 0 (row.take (j + 1)) = sums 0 (row.take j) ++ [(row.take j).sum + x] := by
                                rw [htk, sums_snoc, Int.zero_add]
                              have hsu : (row.take (j + 1)).sum = (row.take j).sum + x := by rw [htk, List.sum_append]; simp
                              have hsl := sums_length (row.take j) 0
                              rw [List.length_take] at hsl
                              obtain ⟨sj, hsj⟩ : ∃ sj, (row.take j).sum = sj := ⟨_, rfl⟩
                              obtain ⟨sl, hsl0⟩ : ∃ sl, sums 0 (row.take j) = sl := ⟨_, rfl⟩
                              rw [hsj] at hsm hsn hsu ⊢
                              rw [hsl0] at hsn HLX hsl
                              have HSN := Aside0.mk hsn
                              have HSU := Aside0.mk hsu
                              have HSL : Aside0 (sl.length ≤ 2000000) := ⟨by omega⟩
                              have hjb : (min j row.length : Nat) ≤ 1048577 := by omega
                              have hsb : 0 ≤ sj + x ∧ sj + x ≤ 1099512676352 := by
                                have h9 : ((min j row.length : Nat) : Int) * 1048576 ≤ 1048577 * 1048576 := by omega
                                omega
                              have hsw : IntKind.i64.wrap (sj + x) = sj + x := by rw [IntKind.wrap_i64]; omega
                              have hwa : IntKind.i64.wrap ((at0 : Int) + (j : Int) + 1) = (at0 : Int) + (j : Int) + 1 := by rw [IntKind.wrap_i64]; omega
                              have hjfi : (j : Int) ≤ (fn : Int) := by omega
                              have hbd1 : (0 : Int) ≤ (at0 : Int) + (j : Int) := by omega
                              have hbd2 : (at0 : Int) + (j : Int) < (places.length : Int) := by omega
                              clear e5 htk hxm hx0 hx2 hxb hsm hsn hsu hsl hsj hsl0 hjb hsb
                              go_wp2_with ((with_reducible refine gate_builtin (b := .append) (xs := #[.tmp 130, .tmp 132]) rfl ?_); at_builtin; refine Lx.append_one (w0 := wq) .i64 wq.heap.size rfl (.tmp 130) (.tmp 132) 52 3 8 rfl Try.underlying52 info3 (by decide) v sl (sj + x) rfl rfl ?aO ?aB ?aS ?aL ?_; (case aO => exact HLX.out); (case aB => exact HBI.out); (case aS => exact HBI.out.size); (case aL => have := HSL.out; omega); intro v1 w8 ho hb hg hat; obtain ⟨s2, hs2⟩ : ∃ s2, sl ++ [sj + x] = s2 := ⟨_, rfl⟩; rw [hs2] at ho; have HS2 := Aside0.mk hs2; clear hs2; obtain ⟨A8, c8, rfl, _, _⟩ := ho.reads; have hby := blk_grown HBX.out hg (fun e => by obtain ⟨cells, hcc⟩ := Lax.typed HLX.out _ e.symm; exact block_ne hcc HBX.out (by decide)); have hby1 := blk_cell hby 1; have hbyf := blk_frozen hby 1; have HBY := Aside0.mk hby; have HO8 := Aside0.mk ho; have HB8 := Aside0.mk hb; clear ho hb hg hat hby)
                              go_roundg (fn + 1 - (j + 1))
                              case measure => have := hj.out; omega
                              case rel => exact ⟨j + 1, .slice A8 s2.length c8, by first | rfl | (simp; done) | (simp; unfold wrap64; omega), by first | rfl | (simp; omega) | (push_cast; rfl) | (congr 1; push_cast; omega), by rw [HSU.out], ⟨by have := hj.out; omega⟩, ⟨blk_set HBY.out 1 _⟩, ⟨by
                                rw [HSN.out, HS2.out]
                                exact Lx.far (p := ⟨wq.heap.size, 1, none⟩) HO8.out (fun k hk => by
                                  obtain ⟨cells, hcc⟩ := Lax.typed HO8.out k hk
                                  intro e
                                  have e : k = wq.heap.size := e
                                  subst e
                                  exact block_ne hcc HBY.out (by decide)) (.slice A8 s2.length c8)⟩, ⟨HB8.out.grown (grownBy_set _ wq.heap.size 1 _) HB8.out.size (fun k e => by injection e; omega)⟩⟩
                            · have hje : j = fn + 1 := by have := hj.out; omega
                              have htk : row.take j = row := by rw [List.take_of_length_le (by have := HRL.out; omega)]
                              rw [htk] at HLX ⊢
                              have hsl := sums_length row 0
                              obtain ⟨Av, cv, rfl, hcv, hCv⟩ := HLX.out.reads
                              have hjfi : ¬ (j : Int) ≤ (fn : Int) := by omega
                              obtain ⟨sl, hsl0⟩ : ∃ sl, sums 0 row = sl := ⟨_, rfl⟩
                              rw [hsl0] at HLX HPG hsl hcv hbx1 HBX
                              have HSL : Aside0 (sl.length ≤ 1048577) := ⟨by have := HRL.out; omega⟩
                              have HX8 := Aside0.mk (HX.out.below HBI.out)
                              have HR8 := Aside0.mk (HR.out.below HBI.out)
                              have HLd8 := Aside0.mk (Lx.below HLd.out HBI.out)
                              have HLf8 := Aside0.mk (Lx.below HLf.out HBI.out)
                              have HLp8 := Aside0.mk (Lx.below HLp.out HBI.out)
                              have HL8 : Aside0 (Lx .i64 3 wr w.heap.size (.slice Av sl.length cv) sl) := ⟨Lx.lower HLX.out HR.out.bel.size⟩
                              have hae : (at0 : Int) + (j : Int) = ((at0 + (fn + 1) : Nat) : Int) := by omega
                              have HJE := Aside0.mk hje
                              clear htk hCv hsl0 hsl hje hae
                              go_wp2_with ((with_reducible refine gate_builtin (b := .append) (xs := #[.tmp 135, .tmp 137]) rfl ?_); at_builtin; refine Qx.append_one (w0 := w) w.heap.size rfl (.tmp 135) (.tmp 137) 31 rfl Try.underlying31 info86 u6 (l'.map to86) ⟨dv, sl⟩ (.slice Av sl.length cv) wr.heap.size rfl rfl rfl ?aO ?aY ?aB ?aS ?aL ?_; (case aO => exact HX8.out); (case aY => exact HL8.out); (case aB => exact HR8.out.bel); (case aS => exact HR8.out.bel.size); (case aL => rw [List.length_map]; have := HLL.out; omega); intro v9 w9 ho9 hb9 hg9 _; have HO9 := Aside0.mk ho9; have HR9 := Aside0.mk (HR8.out.grown hg9 (fun e => by obtain ⟨_, _, cells, hcc⟩ := HX8.out.block _ e.symm; exact block_ne hcc HR8.out.v (by decide)) hb9); have HLd9 := Aside0.mk (HLd8.out.keepQ HX8.out (by decide) hg9); have HLf9 := Aside0.mk (HLf8.out.keepQ HX8.out (by decide) hg9); have HLp9 := Aside0.mk (HLp8.out.keepQ HX8.out (by decide) hg9); clear ho9 hb9 hg9)
                              go_roundg (k - (i + 1))
                              case measure => have := hi.out; omega
                              case rel => exact ⟨i + 1, at0 + (fn + 1), l' ++ [⟨dv, sl⟩], dv, by first | rfl | (simp; done) | (simp; unfold wrap64; omega), by (have := HJE.out; subst this; push_cast; rfl), rfl, ⟨by have := hi.out; omega⟩, ⟨by rw [List.length_append, List.length_singleton]; have := HLL.out; omega⟩, HDVB, HAT2, ⟨fun p hp => by
                                rcases List.mem_append.1 hp with hp | hp
                                · exact HPL2.out p hp
                                · rw [List.mem_singleton] at hp; subst hp; exact HSL.out⟩, HPG, ⟨by rw [List.map_append]; exact HO9.out⟩, HR9, HLd9, HLf9, HLp9⟩
                        · have hie : i = k := by have := hi.out; omega
                          have hikv : ¬ (i : Int) < kv := by omega
                          have hQe : Aside0 (Q = (l', la)) := ⟨by
                            have h1 := HPG.out
                            rw [List.drop_eq_nil_of_le (by omega), qPosts] at h1
                            exact h1.symm⟩
                          have hgn : Aside0 (qOpenGo bs n m ⟨b3, a3, 0⟩ la l' = G) := ⟨by
                            have h1 := HGQ.out
                            rw [hQe.out] at h1
                            exact h1⟩
                          have HIE := Aside0.mk hie
                          clear hie
                          go_wp2
                          go_roundg m
                          case measure => omega
                          case rel => exact ⟨l', la, ⟨b3, a3, 0⟩, rfl, HX, HR, HBS3, ⟨by have := HLL.out; have := HIE.out; omega⟩, ⟨by have h1 := HLL.out; have h2 := HK.out; have := HIE.out; omega⟩, ⟨by rw [HLL.out]; exact HLA.out⟩, HPL2, hgn⟩
                    · have HN : Aside0 (qOpen bs = none) := ⟨by
                        have h1 := HG2.out
                        have e1 : qRows bb k = none := by unfold qRows; rw [HR1E.out]; dsimp only; rw [HR2E.out]; dsimp only; rw [HALL.out, hr3]; dsimp only; rw [if_neg hr3n]
                        rw [e1] at h1
                        rw [HQ0.out, ← h1]⟩
                      have hr3l : (0 : Int) < (r3.length : Int) := by
                        rcases Nat.eq_zero_or_pos r3.length with h0 | h0
                        · exact absurd (List.eq_nil_of_length_eq_zero h0) hr3n
                        · omega
                      clear HG2 HQ0 hRow3 hr3 hr3n
                      go_wp2_with (go_at_call 68; ((with_reducible refine HR3.out.mono ?_)); rintro e w6 ⟨v6, A7, c7, rfl, ho, hc7, hb⟩; obtain ⟨Ap, cp, rfl, hcp, hCp⟩ := ho.reads; have HB6 := Aside0.mk hb; clear ho hb hCp)
                      go_ret2
                      exact ⟨.inl ⟨HN.out, rfl⟩, HR5.out.bel.trans (HB6.out.mono HR5.out.bel.size)⟩
      · have HN : Aside0 (qOpen bs = none) := ⟨by
          have h1 := HG1.out
          rw [if_pos he3] at h1
          rw [HQ0.out, ← h1]⟩
        have heb : (s3.e == 0) = false := beq_eq_false_iff_ne.mpr he3
        clear HG1 HQ0
        go_wp2_with (first
          | (go_at_call 67; ((with_reducible refine (HS3.out _ HRb.out).mono ?_)); rintro e w3 ⟨v3, rfl, ho, hr3, hg3⟩; obtain ⟨A9, c9, rfl, _, _⟩ := ho.reads; have HR3 := Aside0.mk hr3; have hre3 : w3.cell? ⟨w.heap.size, 2, none⟩ = some (.int .i64 s3.e) := blk_cell hr3.v 2; clear ho hr3 hg3)
          | (go_at_call 66; ((with_reducible refine (HS2.out _ HRa.out).mono ?_)); rintro e wb ⟨rfl, hr2, hg2⟩; have HRb := Aside0.mk hr2; clear hr2 hg2)
          | (go_at_call 66; ((with_reducible refine (HS1.out _ HR.out).mono ?_)); rintro e wa ⟨rfl, hr1, hg1⟩; have HRa := Aside0.mk hr1; clear hr1 hg1))
        go_ret2
        exact ⟨.inl ⟨HN.out, rfl⟩, HR3.out.bel⟩
    · have hkz : gk = 0 := by have := HK.out; omega
      have hg := HG.out
      rw [hkz, qOpenGo] at hg
      have HQ1 : Aside0 (qOpen bs = if (rEnd st).e ≠ 0 ∨ rightB (-1) 0 l = false ∨ formOf l ≠ bs then none else some l) := ⟨by rw [HQ0.out, ← hg]⟩
      have HE : Aside0 (Calls Try.prog 69 #[.pointer (some ⟨w.heap.size, 0, none⟩)] wr fun e w' => e = .returned (.int .i64 (rEnd st).e) ∧ Below w.heap.size w w' ∧ wr.grownBy w' (some w.heap.size)) := ⟨QEnd_calls w w.heap.size A c st wr HR.out⟩
      obtain ⟨en, hen⟩ : ∃ en, (rEnd st).e = en := ⟨_, rfl⟩
      rw [hen] at HE HQ1
      clear hen hg HG HQ0 hkz
      by_cases he : en = 0
      · subst he
        have hRe := fun (W : World) (hC : Kd.C k86 W A1 l.length (l.map to86)) => refB_calls A1 l c1 W (by rw [List.length_map]; exact hC) (by rw [List.length_map]; exact hc1) (by omega) (fun p hm => by have := HPL.out p hm; omega)
        rw [List.length_map] at hRe
        have hxq : ∀ W, wr.grownBy W (some w.heap.size) → Qx W w.heap.size (.slice A1 l.length c1) (l.map to86) := fun W hg => HX.out.grown hg (fun k cells e hk => by injection e with e; subst e; exact block_ne hk HR.out.v (by decide)) (fun k cells e hk => by injection e with e; subst e; exact block_ne hk HR.out.v (by decide))
        have hxr : ∀ W, wr.grownBy W (some w.heap.size) → Kd.C k86 W A1 l.length (l.map to86) := fun W hg => by
          obtain ⟨A', c', e1, _, hC⟩ := (hxq W hg).reads
          rw [List.length_map] at e1 hC
          injection e1 with e1 _ _
          subst e1
          exact hC
        cases hrb : rightB (-1) 0 l with
        | true =>
          have e1 : refOf l = (formOf l, 0) := by unfold refOf; rw [if_pos hrb]
          rw [e1] at hRe
          obtain ⟨F, hF⟩ : ∃ F, formOf l = F := ⟨_, rfl⟩
          dsimp only at hRe
          rw [hF] at hRe
          have HRe : Aside0 (∀ W, wr.grownBy W (some w.heap.size) → Calls Try.prog 11 #[.slice A1 l.length c1] W fun e w' => ∃ A' c', e = .returned (.tuple #[.slice A' F.length c', .int .i64 0]) ∧ F.length ≤ c' ∧ (Kd.int .u8).C w' A' F.length F ∧ Qx w' w.heap.size (.slice A1 l.length c1) (l.map to86) ∧ Below W.heap.size W w') := ⟨fun W hg => (hRe W (hxr W hg)).mono fun e w' ⟨A', c', h1, h2, h3, h4⟩ => ⟨A', c', h1, h2, h3, (hxq W hg).below h4, h4⟩⟩
          rw [hrb, hF] at HQ1
          clear hRe hxr hxq hrb e1 hF
          by_cases hfl : F.length = bs.length
          · have hfi : (F.length : Int) = (bs.length : Int) := by omega
            go_wp2_with (first
              | (go_at_call 11; ((with_reducible refine (HRe.out _ HGe.out).mono ?_)); rintro e w7 ⟨A7, c7, rfl, hc7, hC7, hCl, hb⟩; have HC7 := Aside0.mk hC7; have HCl := Aside0.mk hCl; have HB7 := Aside0.mk (HBe.out.trans (hb.mono HBe.out.size)); have HCb := Aside0.mk (Kd.C_below H.out (HBe.out.trans (hb.mono HBe.out.size))); clear hC7 hCl hb)
              | (go_at_call 69; ((with_reducible refine HE.out.mono ?_)); rintro e we ⟨rfl, hb, hg⟩; have HBe := Aside0.mk hb; have HGe := Aside0.mk hg; clear hb hg))
            have HMF := Aside0.mk (Kd.C_max HC7.out)
            have HFL := Aside0.mk hfl
            clear hfi hfl
            go_loopg [25] F.length (fun kq v25 w' => ∃ i : Nat, v25 = .int .i64 (i : Int) ∧ Aside0 (i + kq = F.length) ∧ Aside0 (Below w7.heap.size w7 w') ∧ Aside0 ((F.drop i = bs.drop i) ↔ F = bs))
            case atStart => exact ⟨0, rfl, ⟨by omega⟩, ⟨Below.refl _ _⟩, ⟨by rw [List.drop_zero, List.drop_zero]⟩⟩
            case round =>
              obtain ⟨i, rfl, hi, HZ, HE2⟩ := hrel
              by_cases hil : i < F.length
              · have hfl := HFL.out
                obtain ⟨ad7, rfl, hx7⟩ := Kd.at_int (Kd.C_below HC7.out HZ.out) (i : Int) (by omega) (by omega)
                rw [Int.toNat_natCast] at hx7
                obtain ⟨adb, rfl, hxb⟩ := Kd.at_int (Kd.C_below HCb.out HZ.out) (i : Int) (by omega) (by omega)
                rw [Int.toNat_natCast] at hxb
                have e7 := rdd F i hil
                have e8 := rdd bs i (by omega)
                obtain ⟨fv, hfv⟩ : ∃ fv, rd F (i : Int) = fv := ⟨_, rfl⟩
                obtain ⟨bv, hbv⟩ : ∃ bv, rd bs (i : Int) = bv := ⟨_, rfl⟩
                rw [hfv] at hx7 e7
                rw [hbv] at hxb e8
                have HE7 := Aside0.mk e7
                have HE8 := Aside0.mk e8
                have hib : (i : Int) < (bs.length : Int) := by omega
                clear e7 e8 hfv hbv hfl
                by_cases hfb : fv = bv
                · subst hfb
                  go_wp2
                  go_quiet (fail)
                  go_wp2
                  go_roundg (F.length - (i + 1))
                  case measure => have := hi.out; omega
                  case rel => exact ⟨i + 1, by first | rfl | (simp; done) | (have := HMF.out; simp; unfold wrap64; omega), ⟨by have := hi.out; omega⟩, ⟨HZ.out.trans ((pw_below_drewN (Below.refl _ _) nq).mono HZ.out.size)⟩, ⟨by
                    have h1 := HE2.out
                    rw [HE7.out, HE8.out] at h1
                    simp only [List.cons.injEq, true_and] at h1
                    exact h1⟩⟩
                · have HN : Aside0 (qOpen bs = none) := ⟨by
                    rw [HQ1.out, if_pos (.inr (.inr (fun h => by
                      have h2 := HE2.out.2 h
                      rw [HE7.out, HE8.out] at h2
                      injection h2 with h2 _
                      exact hfb h2)))]⟩
                  have hfe : (fv == bv) = false := beq_eq_false_iff_ne.mpr hfb
                  go_wp2
                  go_quiet (fail)
                  go_wp2
                  go_ret2
                  exact ⟨.inl ⟨HN.out, rfl⟩, HB7.out.trans ((HZ.out.trans ((pw_below_drewN (Below.refl _ _) nq).mono HZ.out.size)).mono HB7.out.size)⟩
              · have hie : i = F.length := by have := hi.out; omega
                have hnl : ¬ (i : Int) < (F.length : Int) := by omega
                have hnl2 : ¬ (i : Int) < (bs.length : Int) := by have := HFL.out; omega
                have hfe : F = bs := HE2.out.1 (by rw [hie, List.drop_eq_nil_of_le (Nat.le_refl _), List.drop_eq_nil_of_le (by have := HFL.out; omega)])
                have HF2 : Aside0 (qOpen bs = some l) := ⟨by
                  rw [HQ1.out, if_neg]
                  rintro (h | h | h)
                  · exact h rfl
                  · cases h
                  · exact h hfe⟩
                have hC9 := Aside0.mk (HCl.out.below HZ.out)
                clear hfe hie
                go_wp2
                go_ret2
                exact ⟨.inr ⟨l, HF2.out, A1, c1, rfl, hc1, hC9.out⟩, HB7.out.trans (HZ.out.mono HB7.out.size)⟩
          · have HN : Aside0 (qOpen bs = none) := ⟨by rw [HQ1.out, if_pos (.inr (.inr (fun h => hfl (by rw [h]))))]⟩
            have hfi : ¬ (F.length : Int) = (bs.length : Int) := by omega
            have hfb : ((F.length : Int) == (bs.length : Int)) = false := beq_eq_false_iff_ne.mpr hfi
            clear HQ1
            go_wp2_with (first
              | (go_at_call 11; ((with_reducible refine (HRe.out _ HGe.out).mono ?_)); rintro e w7 ⟨A7, c7, rfl, hc7, hC7, hCl, hb⟩; have HB7 := Aside0.mk (HBe.out.trans (hb.mono HBe.out.size)); clear hC7 hCl hb)
              | (go_at_call 69; ((with_reducible refine HE.out.mono ?_)); rintro e we ⟨rfl, hb, hg⟩; have HBe := Aside0.mk hb; have HGe := Aside0.mk hg; clear hb hg))
            go_ret2
            exact ⟨.inl ⟨HN.out, rfl⟩, HB7.out⟩
        | false =>
          have e1 : refOf l = ([], 1) := by unfold refOf; rw [if_neg (by rw [hrb]; decide)]
          rw [e1] at hRe
          dsimp only at hRe
          have HN : Aside0 (qOpen bs = none) := ⟨by rw [HQ1.out, if_pos (.inr (.inl hrb))]⟩
          have HRe : Aside0 (∀ W, wr.grownBy W (some w.heap.size) → Calls Try.prog 11 #[.slice A1 l.length c1] W fun e w' => ∃ A' c', e = .returned (.tuple #[.slice A' 0 c', .int .i64 1]) ∧ Below W.heap.size W w') := ⟨fun W hg => (hRe W (hxr W hg)).mono fun e w' ⟨A', c', h1, h2, h3, h4⟩ => ⟨A', c', h1, h4⟩⟩
          clear HQ1 hRe hxr hxq hrb e1
          go_wp2_with (first
            | (go_at_call 11; ((with_reducible refine (HRe.out _ HGe.out).mono ?_)); rintro e w7 ⟨A7, c7, rfl, hb⟩; have HB7 := Aside0.mk (HBe.out.trans (hb.mono HBe.out.size)); clear hb)
            | (go_at_call 69; ((with_reducible refine HE.out.mono ?_)); rintro e we ⟨rfl, hb, hg⟩; have HBe := Aside0.mk hb; have HGe := Aside0.mk hg; clear hb hg))
          go_ret2
          exact ⟨.inl ⟨HN.out, rfl⟩, HB7.out⟩
      · have HN : Aside0 (qOpen bs = none) := ⟨by rw [HQ1.out, if_pos (.inl he)]⟩
        have heb : (en == 0) = false := beq_eq_false_iff_ne.mpr he
        clear HQ1
        go_wp2_with (go_at_call 69; ((with_reducible refine HE.out.mono ?_)); rintro e we ⟨rfl, hb, _⟩; have HBe := Aside0.mk hb; clear hb)
        go_ret2
        exact ⟨.inl ⟨HN.out, rfl⟩, HBe.out⟩
theorem wrap64_small {x : Int} (h0 : -9223372036854775808 ≤ x) (h1 : x ≤ 9223372036854775807) : wrap64 x = x := by
  unfold wrap64
  omega
theorem eqGo (x0 x1 : List Int) (h : x0.length = x1.length) (hm : x0.length ≤ 9223372036854775807) : ∀ (k j : Nat), x0.length < j + k → j ≤ x0.length → slices_Equal_byte_byte.l0 k x0 x1 x0.length j = some (decide (x0.drop j = x1.drop j))
  | 0, j, h1, h2 => by omega
  | k + 1, j, h1, h2 => by
    rw [slices_Equal_byte_byte.l0]
    by_cases hj : j < x0.length
    · rw [if_pos (by omega), if_pos (by omega), if_pos (by omega), if_pos (by omega), drop_rd x0 j hj, drop_rd x1 j (by omega)]
      by_cases he : rd x0 j = rd x1 j
      · rw [if_pos he, wrap64_small (by omega) (by omega), he]
        have := eqGo x0 x1 h hm k (j + 1) (by omega) (by omega)
        rw [show ((j : Int) + 1) = ((j + 1 : Nat) : Int) from rfl, this]
        simp
      · rw [if_neg he]
        simp [he]
    · rw [if_neg (by omega), List.drop_eq_nil_of_le (by omega), List.drop_eq_nil_of_le (by omega)]
      simp
theorem Equal_calls (A0 A1 : Option Addr) (c0 c1 : Nat) (x0 x1 : List Int) (w : World) (h0 : (Kd.int .u8).C w A0 x0.length x0) (hc0 : x0.length ≤ c0) (h1 : (Kd.int .u8).C w A1 x1.length x1) (hc1 : x1.length ≤ c1) :
    Calls Try.prog 56 #[.slice A0 x0.length c0, .slice A1 x1.length c1] w fun e w' => e = .returned (.bool (decide (x0 = x1))) ∧ Drawn0 w w' := by
  refine slices_Equal_byte_byte.calls (x0.length + 1) A0 c0 x0 A1 c1 x1 _ w h0 hc0 h1 hc1 ?_
  unfold slices_Equal_byte_byte.f
  by_cases h : x0.length = x1.length
  · rw [if_pos (by omega)]
    have := eqGo x0 x1 h (Kd.C_max h0) (x0.length + 1) 0 (by omega) (by omega)
    exact this
  · rw [if_neg (by omega)]
    have : ¬ x0 = x1 := fun e => h (by rw [e])
    simp [this]
theorem bytesGo (x0 x1 : List Int) (h : x0.length = x1.length) (hm : x0.length ≤ 9223372036854775807) : ∀ (k j : Nat), x0.length < j + k → j ≤ x0.length → lecternkit_Bytes.l0 k x0 x1 j = some (decide (x0.drop j = x1.drop j))
  | 0, j, h1, h2 => by omega
  | k + 1, j, h1, h2 => by
    rw [lecternkit_Bytes.l0]
    by_cases hj : j < x0.length
    · rw [if_pos (by omega), if_pos (by omega), if_pos (by omega), drop_rd x0 j hj, drop_rd x1 j (by omega)]
      by_cases he : rd x0 j = rd x1 j
      · rw [if_pos he, wrap64_small (by omega) (by omega), he]
        have := bytesGo x0 x1 h hm k (j + 1) (by omega) (by omega)
        rw [show ((j : Int) + 1) = ((j + 1 : Nat) : Int) from rfl, this]
        simp
      · rw [if_neg he]
        simp [he]
    · rw [if_neg (by omega), List.drop_eq_nil_of_le (by omega), List.drop_eq_nil_of_le (by omega)]
      simp
theorem bytesF (x0 x1 : List Int) (hm : x0.length ≤ 9223372036854775807) : lecternkit_Bytes.f (x0.length + 1) x0 x1 = some (decide (x0 = x1)) := by
  unfold lecternkit_Bytes.f
  by_cases h : x0.length = x1.length
  · rw [if_pos (by omega)]
    exact bytesGo x0 x1 h hm (x0.length + 1) 0 (by omega) (by omega)
  · rw [if_neg (by omega)]
    have : ¬ x0 = x1 := fun e => h (by rw [e])
    simp [this]
theorem Bytes13_calls (A0 A1 : Option Addr) (c0 c1 : Nat) (x0 x1 : List Int) (w : World) (h0 : (Kd.int .u8).C w A0 x0.length x0) (hc0 : x0.length ≤ c0) (h1 : (Kd.int .u8).C w A1 x1.length x1) (hc1 : x1.length ≤ c1) :
    Calls Try.prog 13 #[.slice A0 x0.length c0, .slice A1 x1.length c1] w fun e w' => e = .returned (.bool (decide (x0 = x1))) ∧ Drawn0 w w' :=
  lecternkit_Bytes.calls (x0.length + 1) A0 c0 x0 A1 c1 x1 _ w h0 hc0 h1 hc1 (bytesF x0 x1 (Kd.C_max h0))
end Go.Proofs.Ytimlgpfcgklddaa.P
namespace Go.Proofs.Ytimlgpfcgklddaa
open Go.RowKit Go.Proofs.YtimlgpfcgklddaaW.PrintWords
/-- A row of one's own with a mark behind it. -/
def LentB (w : World) (base : Nat) (v : Value) (xs : List Int) : Prop := ∃ A c, v = .slice A xs.length c ∧ xs.length + 1 ≤ c ∧ Lx .u8 5 w base (.slice A (xs.length + 1) c) (xs ++ [201])
theorem LentB.below {w w1 : World} {base : Nat} {v : Value} {xs : List Int} (h : LentB w base v xs) (hb : Below w.heap.size w w1) : LentB w1 base v xs := by
  obtain ⟨A, c, e, hc, hx⟩ := h
  exact ⟨A, c, e, hc, hx.below hb⟩
theorem LentB.reads {w : World} {base : Nat} {A : Option Addr} {n c : Nat} {xs : List Int} (h : LentB w base (.slice A n c) xs) : n = xs.length ∧ n + 1 ≤ c ∧ (Kd.int .u8).C w A xs.length xs ∧ ∃ ad, A = some ad ∧ w.cell? (ad.add xs.length) = some (.int .u8 201) := by
  obtain ⟨A', c', e, hc, hx⟩ := h
  injection e with e1 e2 e3
  subst e1; subst e2; subst e3
  have hr := (Lx.reads' hx).2.2
  have hl : (xs ++ [(201 : Int)]).length = xs.length + 1 := by simp
  have h1 := P.C_take hr xs.length (by omega)
  rw [List.take_left] at h1
  obtain ⟨ad, e, hcell⟩ := Kd.at_int hr (xs.length : Int) (by omega) (by omega)
  rw [Int.toNat_natCast] at hcell
  have e5 : rd (xs ++ [(201 : Int)]) (xs.length : Int) = 201 := by unfold rd; simp
  rw [e5] at hcell
  exact ⟨rfl, hc, h1, ad, e, hcell⟩
end Go.Proofs.Ytimlgpfcgklddaa
namespace Go.Proofs.Ytimlgpfcgklddaa.P
open Go.RowKit Go.Shelf Go.Proofs.YtimlgpfcgklddaaW.PrintWords Go.Proofs.YtimlgpfcgklddaaW.PrintLast Go.Proofs.YtimlgpfcgklddaaW.PrintMore
set_option linter.unusedVariables false
set_option linter.unusedSimpArgs false
set_option maxHeartbeats 1000000 in
theorem LentBytes_calls (A : Option Addr) (xs : List Int) (c : Nat) (w : World) (h : (Kd.int .u8).C w A xs.length xs) (hc : xs.length ≤ c) (hl : xs.length ≤ 140737488351232) :
    Calls Try.prog 32 #[.slice A xs.length c] w fun e w' => ∃ v, e = .returned v ∧ LentB w' w.heap.size v xs ∧ Below w.heap.size w w' := by
  have H := Aside0.mk h
  clear h
  go_enter Try.func32, Try.ntmps32
  go_wp2_with (first | ((with_reducible refine gate_builtin (b := .append) (xs := #[.tmp 4, .tmp 5]) rfl ?_); at_builtin; refine Lx.append_row (w0 := w) .u8 w.heap.size rfl (.tmp 4) (.tmp 5) 25 5 1 rfl Try.underlying25 info5 (by decide) (.slice none 0 0) [] xs A xs.length c rfl rfl (Lx.nil _ _ _ _) H.out (Below.refl _ _) (Nat.le_refl _) (by simp; omega) ?_; intro v1 w1 ho hb hg hat; rw [List.nil_append] at ho; have HO1 := Aside0.mk ho; have HB1 := Aside0.mk hb; clear ho hb hg hat) | ((with_reducible refine gate_builtin (b := .append) (xs := #[.tmp 7, .tmp 8]) rfl ?_); at_builtin; refine Lx.append_one (w0 := w) .u8 w.heap.size rfl (.tmp 7) (.tmp 8) 25 5 1 rfl Try.underlying25 info5 (by decide) v1 xs (201) rfl rfl HO1.out HB1.out HB1.out.size (by omega) ?_; intro v2 w2 ho hb hg hat; obtain ⟨A2, c2, rfl, hc2, _⟩ := ho.reads; rw [List.length_append, List.length_singleton] at hc2; rw [List.length_append, List.length_singleton] at ho; have HO2 := Aside0.mk ho; have HB2 := Aside0.mk hb; clear ho hb hg hat))
  go_ret
  exact ⟨_, rfl, ⟨A2, c2, rfl, hc2, HO2.out⟩, HB2.out⟩
set_option maxHeartbeats 1000000 in
theorem KeptBytes_calls (A A1 : Option Addr) (xs : List Int) (c c1 base : Nat) (w : World) (h : LentB w base (.slice A xs.length c) xs) (h1 : (Kd.int .u8).C w A1 xs.length xs) (hc1 : xs.length ≤ c1) (hl : xs.length ≤ 140737488351232) :
    Calls Try.prog 34 #[.slice A xs.length c, .slice A1 xs.length c1] w fun e w' => e = .returned (.bool true) ∧ Drawn0 w w' := by
  obtain ⟨_, hc, hC, ad, rfl, hcell⟩ := h.reads
  have hm := Kd.C_max hC
  have HI : Aside0 (Calls Try.prog 13 #[.slice (some ad) xs.length c, .slice A1 xs.length c1] w fun e w' => e = .returned (.bool true) ∧ Drawn0 w w') := ⟨(Bytes13_calls (some ad) A1 c c1 xs xs w hC (by omega) h1 hc1).mono fun e w' h => ⟨by rw [h.1, decide_eq_true rfl], h.2⟩⟩
  have hnn : xs.length < xs.length + 1 := by omega
  obtain ⟨n, hn⟩ : ∃ n, xs.length = n := ⟨_, rfl⟩
  rw [hn] at hc hm HI hcell hnn hl ⊢
  clear h hC h1 hc1 hn
  go_enter Try.func34, Try.ntmps34
  go_wp2_with (go_at_call 13; ((with_reducible refine HI.out.mono ?_)); rintro e w1 ⟨rfl, hd⟩; obtain ⟨kd, rfl⟩ := hd.out)
  go_ret
  exact ⟨rfl, ⟨kd, rfl⟩⟩
end Go.Proofs.Ytimlgpfcgklddaa.P
namespace Go.Proofs.Ytimlgpfcgklddaa
open Go.RowKit
def skipN (bl : List Blk) (i : Nat) (doc : Int) : Nat := i + ((bl.drop i).takeWhile fun p => decide (p.last < doc)).length
def seekN (ps : List P.S58) (i : Nat) (doc : Int) : Nat := i + ((ps.drop i).takeWhile fun p => decide (p.f0 < doc)).length
def advF (bl : List Blk) (s : ISt) (doc : Int) : Bool × ISt :=
  if s.here ∧ ¬ (s.posts.getD (s.posts.length - 1) P.z58).f0 < doc then (true, { s with at' := seekN s.posts s.at'.toNat doc })
  else if (loadF bl { s with nx := skipN bl s.nx doc }).1 = true then (true, { (loadF bl { s with nx := skipN bl s.nx doc }).2 with at' := seekN (loadF bl { s with nx := skipN bl s.nx doc }).2.posts 0 doc })
  else (false, (loadF bl { s with nx := skipN bl s.nx doc }).2)
theorem skip_step {bl : List Blk} {i : Nat} {doc : Int} {p : Blk} (h : bl[i]? = some p) (hp : p.last < doc) : skipN bl (i + 1) doc = skipN bl i doc := by
  unfold skipN
  obtain ⟨hi, he⟩ := List.getElem?_eq_some_iff.1 h
  rw [List.drop_eq_getElem_cons hi, List.takeWhile_cons, if_pos (by rw [he]; exact decide_eq_true hp), List.length_cons]
  omega
theorem skip_stop {bl : List Blk} {i : Nat} {doc : Int} {p : Blk} (h : bl[i]? = some p) (hp : ¬ p.last < doc) : skipN bl i doc = i := by
  unfold skipN
  obtain ⟨hi, he⟩ := List.getElem?_eq_some_iff.1 h
  rw [List.drop_eq_getElem_cons hi, List.takeWhile_cons, if_neg (by rw [he]; simpa using hp)]
  rfl
theorem skip_end {bl : List Blk} {i : Nat} {doc : Int} (h : bl.length ≤ i) : skipN bl i doc = i := by
  unfold skipN
  rw [List.drop_eq_nil_of_le h]
  rfl
theorem seek_step {ps : List P.S58} {i : Nat} {doc : Int} (hi : i < ps.length) (hp : (ps.getD i P.z58).f0 < doc) : seekN ps (i + 1) doc = seekN ps i doc := by
  unfold seekN
  have he : ps[i] = ps.getD i P.z58 := by simp [hi]
  rw [List.drop_eq_getElem_cons hi, List.takeWhile_cons, if_pos (by rw [he]; exact decide_eq_true hp), List.length_cons]
  omega
theorem seek_stop {ps : List P.S58} {i : Nat} {doc : Int} (hi : i < ps.length) (hp : ¬ (ps.getD i P.z58).f0 < doc) : seekN ps i doc = i := by
  unfold seekN
  have he : ps[i] = ps.getD i P.z58 := by simp [hi]
  rw [List.drop_eq_getElem_cons hi, List.takeWhile_cons, if_neg (by rw [he]; simpa using hp)]
  rfl
theorem pGo_last : ∀ (ds fs ps : List Int) (la : Int) (out : List P.S58) (R : List P.S58 × Int), pGo ds fs ps la out = some R → (ds ≠ [] ∨ (out ≠ [] ∧ (out.getD (out.length - 1) P.z58).f0 = la)) → R.1 ≠ [] ∧ (R.1.getD (R.1.length - 1) P.z58).f0 = R.2
  | [], fs, ps, la, out, R, h, ho => by
    rw [pGo] at h
    injection h with h
    subst h
    rcases ho with ho | ho
    · exact absurd rfl ho
    · exact ho
  | d :: ds, fs, ps, la, out, R, h, ho => by
    rw [pGo] at h
    split at h
    · cases h
    · split at h
      · cases h
      · refine pGo_last _ _ _ _ _ _ h (.inr ⟨by simp, ?_⟩)
        simp
theorem postsF_last {bs : List Int} {ahead last : Int} {n : Nat} (h : (postsF bs ahead last n).2 = true) (hn : 1 ≤ n) : (postsF bs ahead last n).1 ≠ [] ∧ ((postsF bs ahead last n).1.getD ((postsF bs ahead last n).1.length - 1) P.z58).f0 = last := by
  unfold postsF at h ⊢
  split at h
  · cases h
  · rename_i hlen
    rw [if_neg hlen]
    split at h
    · cases h
    · rename_i all hall
      split at h
      · cases h
      · rename_i hpl
        rw [if_neg hpl]
        split at h
        · cases h
        · rename_i out l he
          have h1 := pGo_last _ _ _ _ _ _ he (.inl (fun e => by
            rcases Nat.decEq (rowOf bs n).length n with h | h
            · exact hlen (.inl h)
            · rw [e] at h; simp at h; omega))
          have h2 : l = last := by simpa using h
          rw [← h2]
          exact h1
end Go.Proofs.Ytimlgpfcgklddaa
