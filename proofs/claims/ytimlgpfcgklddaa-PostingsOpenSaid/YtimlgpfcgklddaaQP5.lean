/-
Texts of this seat, laid together: P5, D7.
-/
import Derived.Test.YtimlgpfcgklddaaQD3
import Derived.Test.YtimlgpfcgklddaaQP1
namespace Go.Proofs.Ytimlgpfcgklddaa.P
open Go.RowKit Go.Shelf Go.Proofs.YtimlgpfcgklddaaW.PrintWords Go.Proofs.YtimlgpfcgklddaaW.PrintLast Go.Proofs.YtimlgpfcgklddaaW.PrintMore
set_option linter.unusedVariables false
set_option linter.unusedSimpArgs false
set_option maxRecDepth 100000 in
set_option maxHeartbeats 2000000 in
theorem postsA_calls (A : Option Addr) (bs : List Int) (c n : Nat) (ahead last : Int) (w : World) (h : (Kd.int .u8).C w A bs.length bs) (hc : bs.length ≤ c) (hl : bs.length ≤ 140737488355328) (hr : ∀ x ∈ bs, 0 ≤ x ∧ x < 256) (hn : n ≤ 1048576) (hn1 : 1 ≤ n) (ha : -1 ≤ ahead ∧ ahead ≤ 4398046511104) :
    Calls Try.prog 53 #[.agg #[.slice A bs.length c, .int .i64 ahead, .int .i64 last, .int .i64 n]] w fun e w' => ∃ v, e = .returned (.tuple #[v, .bool (postsF bs ahead last n).2]) ∧ PxA w'.heap.size w' w.heap.size v (postsF bs ahead last n).1 ∧ Below w.heap.size w w' := by
  obtain ⟨R, hR⟩ : ∃ R, postsF bs ahead last n = R := ⟨_, rfl⟩
  rw [hR]
  obtain ⟨ds, hds⟩ : ∃ ds, rowOf bs n = ds := ⟨_, rfl⟩
  obtain ⟨b1, hb1⟩ : ∃ b1, restOf bs n = b1 := ⟨_, rfl⟩
  obtain ⟨fs, hfs⟩ : ∃ fs, rowOf b1 n = fs := ⟨_, rfl⟩
  obtain ⟨b2, hb2⟩ : ∃ b2, restOf b1 n = b2 := ⟨_, rfl⟩
  have hok1 := restOf_ok n hl hr
  rw [hb1] at hok1
  have hok2 := restOf_ok n hok1.1 hok1.2
  rw [hb2] at hok2
  unfold postsF at hR
  rw [hb1, hb2, hds, hfs] at hR
  have T1 : Aside0 (∀ W, W.heap[w.heap.size + 1]? = some (.cells #[.slice A bs.length c] 25 (0, 0)) → Below w.heap.size w W → Calls Try.prog 85 #[.int .i64 n, .pointer (some ⟨w.heap.size + 1, 0, none⟩)] W fun e w' => ∃ v A' c', e = .returned v ∧ Lx .i64 2 w' W.heap.size v ds ∧ w'.heap[w.heap.size + 1]? = some (.cells #[.slice A' b1.length c'] 25 (0, 0)) ∧ b1.length ≤ c' ∧ (Kd.int .u8).C w A' b1.length b1 ∧ W.grownBy w' (some (w.heap.size + 1))) := ⟨fun W hb hB => by
    have := takeRow_calls w (w.heap.size + 1) A bs c n W hb h hB hc hl hr hn
    rw [hds, hb1] at this
    exact this⟩
  have T2 : Aside0 (∀ W A1 c1, W.heap[w.heap.size + 1]? = some (.cells #[.slice A1 b1.length c1] 25 (0, 0)) → (Kd.int .u8).C w A1 b1.length b1 → b1.length ≤ c1 → Below w.heap.size w W → Calls Try.prog 85 #[.int .i64 n, .pointer (some ⟨w.heap.size + 1, 0, none⟩)] W fun e w' => ∃ v A' c', e = .returned v ∧ Lx .i64 2 w' W.heap.size v fs ∧ w'.heap[w.heap.size + 1]? = some (.cells #[.slice A' b2.length c'] 25 (0, 0)) ∧ b2.length ≤ c' ∧ (Kd.int .u8).C w A' b2.length b2 ∧ W.grownBy w' (some (w.heap.size + 1))) := ⟨fun W A1 c1 hb hC hc hB => by
    have := takeRow_calls w (w.heap.size + 1) A1 b1 c1 n W hb hC hB hc hok1.1 hok1.2 hn
    rw [hfs, hb2] at this
    exact this⟩
  have T3 : Aside0 (∀ W A2 c2 (m : Nat), W.heap[w.heap.size + 1]? = some (.cells #[.slice A2 b2.length c2] 25 (0, 0)) → (Kd.int .u8).C w A2 b2.length b2 → b2.length ≤ c2 → Below w.heap.size w W → m ≤ 1048576 → Calls Try.prog 85 #[.int .i64 m, .pointer (some ⟨w.heap.size + 1, 0, none⟩)] W fun e w' => ∃ v A' c', e = .returned v ∧ Lx .i64 2 w' W.heap.size v (rowOf b2 m) ∧ w'.heap[w.heap.size + 1]? = some (.cells #[.slice A' (restOf b2 m).length c'] 25 (0, 0)) ∧ (restOf b2 m).length ≤ c' ∧ (Kd.int .u8).C w A' (restOf b2 m).length (restOf b2 m) ∧ W.grownBy w' (some (w.heap.size + 1))) := ⟨fun W A2 c2 m hb hC hc hB hm => takeRow_calls w (w.heap.size + 1) A2 b2 c2 m W hb hC hB hc hok2.1 hok2.2 hm⟩
  have HRR := Aside0.mk hR
  have hmf : ∀ (fn : Fn) (first cap : Array Value) (w : World), (Instr.makeFunc fn first cap).run Try.prog w = .ok (.func fn first cap) w := fun _ _ _ _ => rfl
  clear h hr hds hb1 hfs hb2 hR hok1 hok2
  go_enter Try.func53, Try.ntmps53
  by_cases hd : ds.length = n
  · by_cases hf : fs.length = n
    · rw [if_neg (by simp [hd, hf])] at HRR
      have hfn : (fs.length : Int) = n := by omega
      have hdn : (ds.length : Int) = n := by omega
      have HD := Aside0.mk hd
      have HF := Aside0.mk hf
      clear hd hf
      go_wp2_with (first | (go_at_call 85; ((with_reducible refine (T2.out _ A1 c1 HX1.out.bx HC1.out hc1 HX1.out.below).mono ?_)); rintro e w2 ⟨v2, A2, c2, rfl, ho2, hb2, hc2, hC2, hg2⟩; have HX2 := Aside0.mk (HX1.out.took hg2 hb2); have HO2 := Aside0.mk (Lax.lower ho2 HX1.out.below.size); have HO1b := Aside0.mk (Lx.took HO1.out HX1.out.bx hg2 (Nat.le_refl _)); have HC2 := Aside0.mk hC2; obtain ⟨Af, cf, rfl, hcf, hCf⟩ := ho2.reads; have HCf := Aside0.mk hCf; have hs0 := blk_cell HX2.out.st 0; have hs1 := blk_cell HX2.out.st 1; have hs2 := blk_cell HX2.out.st 2; have hs3 := blk_cell HX2.out.st 3; have hs4 := blk_cell HX2.out.bx 0; clear ho2 hb2 hC2 hg2 hCf hn3) | (go_at_call 85; ((with_reducible refine (T1.out _ (Hold.new _ _ _ _ _ _ _).bx (Hold.new _ _ _ _ _ _ _).below).mono ?_)); rintro e w1 ⟨v1, A1, c1, rfl, ho1, hb1, hc1, hC1, hg1⟩; have HX1 := Aside0.mk ((Hold.new w A bs.length c ahead last n).took hg1 hb1); have HO1 := Aside0.mk (Lax.lower ho1 (show w.heap.size ≤ _ by simp; omega)); have HC1 := Aside0.mk hC1; obtain ⟨Ad, cd, rfl, hcd, hCd⟩ := ho1.reads; have HCd := Aside0.mk hCd; have hn3 := blk_cell HX1.out.st 3; clear ho1 hb1 hC1 hg1 hCd))
      go_loopg [8, 45] fs.length (fun kq v8 v45 w' => w' = w2 ∧ ∃ (k : Nat) (a : Int), v45 = .int .i64 k ∧ Aside0 (k ≤ fs.length) ∧ v8 = .int .i64 a ∧ (0 ≤ a ∧ a ≤ 1048576) ∧ Aside0 (allGo a (fs.drop k) = allGo 0 fs) ∧ Aside0 (fs.length - k ≤ kq))
      case atStart => exact ⟨rfl, 0, 0, rfl, ⟨Nat.zero_le _⟩, rfl, by omega, ⟨rfl⟩, ⟨Nat.le_refl _⟩⟩
      case round =>
        obtain ⟨rfl, k, a, rfl, hk, rfl, har, HA, HK⟩ := hrel
        by_cases hlt : k < fs.length
        · obtain ⟨ad, rfl, hx⟩ := Kd.at_int HCf.out (k : Int) (by omega) (by omega)
          rw [Int.toNat_natCast] at hx
          have hdr : fs.drop k = rd fs k :: fs.drop (k + 1) := by
            rw [List.drop_eq_getElem_cons hlt]
            unfold rd
            rw [Int.toNat_natCast, List.getD_eq_getElem?_getD, List.getElem?_eq_getElem hlt]
            rfl
          obtain ⟨f, hfe⟩ : ∃ f, rd fs k = f := ⟨_, rfl⟩
          rw [hfe] at hx hdr
          rw [hdr, allGo] at HA
          clear hdr hfe
          by_cases hbad : f < 0 ∨ 1048576 - a ≤ f
          · rw [if_pos hbad] at HA
            have HRN : Aside0 (R = ([], false)) := ⟨by rw [← HRR.out, ← HA.out]⟩
            by_cases hf0 : f < 0
            · go_wp2
              go_ret2
              have e := HRN.out
              subst e
              exact ⟨_, rfl, PxA.nil _ _ _, HX2.out.below⟩
            · have hf1 : 1048576 - a ≤ f := by omega
              go_wp2
              go_ret2
              have e := HRN.out
              subst e
              exact ⟨_, rfl, PxA.nil _ _ _, HX2.out.below⟩
          · rw [if_neg hbad] at HA
            obtain ⟨hf0, hf1⟩ : 0 ≤ f ∧ f < 1048576 - a := by omega
            have hfa : ¬ f ≥ 1048576 - a := by omega
            have hfz : ¬ f < 0 := by omega
            go_wp2
            go_roundg (fs.length - (k + 1))
            case measure => have := HK.out; omega
            case rel => exact ⟨rfl, k + 1, a + (f + 1), by first | rfl | (simp; done), ⟨by omega⟩, by first | rfl | (simp; done), by omega, HA, ⟨Nat.le_refl _⟩⟩
        · have hke : fs.drop k = [] := List.drop_eq_nil_of_le (by omega)
          rw [hke, allGo] at HA
          rw [← HA.out] at HRR
          have HSum := Aside0.mk (allGo_sum fs 0 a HA.out.symm (by omega) (by omega))
          have hke2 : k = fs.length := by have := hk.out; omega
          obtain ⟨m, rfl⟩ := Int.eq_ofNat_of_zero_le har.1
          dsimp only at HRR
          rw [Int.toNat_natCast] at HRR
          have hm : m ≤ 1048576 := by omega
          have HT3 := Aside0.mk (T3.out wr A2 c2 m HX2.out.bx HC2.out hc2 HX2.out.below hm)
          obtain ⟨pl, hpl⟩ : ∃ pl, rowOf b2 m = pl := ⟨_, rfl⟩
          obtain ⟨b3, hb3⟩ : ∃ b3, restOf b2 m = b3 := ⟨_, rfl⟩
          rw [hpl, hb3] at HT3
          rw [hpl, hb3] at HRR
          clear hpl hb3 HA hke T1 T2 T3 HK hk
          have hkl : ¬ (k : Int) < (fs.length : Int) := by omega
          by_cases hp : pl.length = m
          · by_cases h3 : b3.length = 0
            · have h3e : b3 = [] := List.eq_nil_of_length_eq_zero h3
              subst h3e
              rw [if_neg (by simp [hp])] at HRR
              have hpi : (pl.length : Int) = m := by omega
              go_wp2_with (go_at_call 85; ((with_reducible refine HT3.out.mono ?_)); rintro e w3 ⟨v3, A3, c3, rfl, ho3, hb3, hc3, hC3, hg3⟩; have HX3 := Aside0.mk (HX2.out.took hg3 hb3); have HO3 := Aside0.mk (Lax.lower ho3 HX2.out.below.size); have HO13 := Aside0.mk (Lx.took HO1b.out HX2.out.bx hg3 (Nat.le_refl _)); have HO23 := Aside0.mk (Lx.took HO2.out HX2.out.bx hg3 (Nat.le_refl _)); obtain ⟨Ap, cp, rfl, hcp, hCp⟩ := ho3.reads; have HCp := Aside0.mk hCp; clear hs0 hs1 hs2 hs3 hs4; have hs0 := blk_cell HX3.out.st 0; have hs1 := blk_cell HX3.out.st 1; have hs2 := blk_cell HX3.out.st 2; have hs3 := blk_cell HX3.out.st 3; have hs4 := blk_cell HX3.out.bx 0; clear ho3 hb3 hC3 hg3 hCp)
              obtain ⟨PG, hPG⟩ : ∃ PG, pGo ds fs pl ahead [] = PG := ⟨_, rfl⟩
              rw [hPG] at HRR
              have HPG0 := Aside0.mk hPG
              have HSum2 : Aside0 ((pl.length : Int) = sumF fs) := ⟨by have := HSum.out.1; omega⟩
              have HFR := Aside0.mk HSum.out.2.2
              have HW3 := Aside0.mk (show w.heap.size ≤ w3.heap.size from HX3.out.below.size)
              have HCd3 := Aside0.mk (Lx.reads' HO13.out).2.2
              have HCf3 := Aside0.mk (Lx.reads' HO23.out).2.2
              have HPM := Aside0.mk hp
              clear HSum hPG hp hs4 HC1 HC2 HX2 HO1b HO2 HCf HCd HO1 HX1 HT3
              go_loopg [11, 12, 13, 78] ds.length (fun kq v11 v12 v13 v78 w' => ∃ (k : Nat) (Ap : Option Addr) (ps : List Int) (cp : Nat) (out : List S58) (la : Int), v78 = .int .i64 k ∧ Aside0 (k ≤ ds.length) ∧ v11 = .slice Ap ps.length cp ∧ v13 = .int .i64 la ∧ ps.length ≤ cp ∧ Aside0 ((Kd.int .i64).C w3 Ap ps.length ps) ∧ Aside0 (PxA w'.heap.size w' w3.heap.size v12 out) ∧ Aside0 (out.length = k) ∧ (-1 ≤ la ∧ la ≤ 4398046511104 + k * 16384) ∧ Aside0 (pGo (ds.drop k) (fs.drop k) ps la out = PG) ∧ Aside0 ((ps.length : Int) = sumF (fs.drop k)) ∧ Aside0 (Below w3.heap.size w3 w') ∧ Aside0 (ds.length - k ≤ kq))
              case atStart => exact ⟨0, _, pl, _, [], _, rfl, ⟨Nat.zero_le _⟩, by rw [HPM.out], rfl, hcp, HCp, ⟨PxA.nil _ _ _⟩, ⟨rfl⟩, by omega, HPG0, HSum2, ⟨Below.refl _ _⟩, ⟨Nat.le_refl _⟩⟩
              case round =>
                clear HCp hcp HPG0 HSum2
                obtain ⟨k2, Ap, ps, cp, out, la, rfl, hk2, rfl, rfl, hcp, HCp, HPX, HOL, hla, HPG, HSum, HB, HK⟩ := hrel
                have hst := blk_cell (blk_below HX3.out.st HB.out) 2
                by_cases hlt : k2 < ds.length
                · have hlf : k2 < fs.length := by have := HD.out; have := HF.out; omega
                  obtain ⟨ad, rfl, hxd⟩ := Kd.at_int HCd3.out (k2 : Int) (by omega) (by omega)
                  rw [Int.toNat_natCast] at hxd
                  replace hxd := pw_cell_below HB.out hxd
                  obtain ⟨af, rfl, hxf⟩ := Kd.at_int HCf3.out (k2 : Int) (by omega) (by omega)
                  rw [Int.toNat_natCast] at hxf
                  replace hxf := pw_cell_below HB.out hxf
                  have hdr : ds.drop k2 = rd ds k2 :: ds.drop (k2 + 1) := drop_rd ds k2 hlt
                  have hfr : fs.drop k2 = rd fs k2 :: fs.drop (k2 + 1) := drop_rd fs k2 hlf
                  have hfm : rd fs k2 ∈ fs := List.mem_of_mem_drop (i := k2) (by rw [hfr]; exact List.mem_cons_self ..)
                  obtain ⟨d, hde⟩ : ∃ d, rd ds k2 = d := ⟨_, rfl⟩
                  obtain ⟨f, hfe⟩ : ∃ f, rd fs k2 = f := ⟨_, rfl⟩
                  rw [hde] at hxd hdr
                  rw [hfe] at hxf hfr hfm
                  obtain ⟨hf0, hf1⟩ := HFR.out f hfm
                  obtain ⟨q, hq⟩ : ∃ q : Nat, f = (q : Int) - 1 := ⟨(f + 1).toNat, by omega⟩
                  subst hq
                  rw [hdr, hfr, pGo] at HPG
                  rw [hfr] at HSum
                  rw [List.headD_cons, List.tail_cons, show ((q : Int) - 1 + 1).toNat = q from by omega] at HPG
                  have hsum2 : (ps.length : Int) = q + sumF (fs.drop (k2 + 1)) := by
                    rw [HSum.out]; simp only [sumF, List.map_cons, List.sum_cons]; omega
                  have hs0 : 0 ≤ sumF (fs.drop (k2 + 1)) := sumF_nonneg _ fun f hf => (HFR.out f (List.mem_of_mem_drop hf)).1
                  clear hdr hfr hfm hde hfe HSum
                  by_cases hdb : d < 0 ∨ 16384 ≤ d
                  · rw [if_pos hdb] at HPG
                    have HRN : Aside0 (R = ([], false)) := ⟨by rw [← HRR.out, ← HPG.out]⟩
                    by_cases hd0 : d < 0
                    · go_wp2
                      go_ret2
                      have e := HRN.out
                      subst e
                      exact ⟨_, rfl, PxA.nil _ _ _, HX3.out.below.trans (HB.out.mono HW3.out)⟩
                    · have hd1 : d ≥ 16384 := by omega
                      go_wp2
                      go_ret2
                      have e := HRN.out
                      subst e
                      exact ⟨_, rfl, PxA.nil _ _ _, HX3.out.below.trans (HB.out.mono HW3.out)⟩
                  · rw [if_neg hdb] at HPG
                    obtain ⟨hd0, hd1⟩ : ¬ d < 0 ∧ ¬ d ≥ 16384 := by omega
                    have hd2 : 0 ≤ d ∧ d < 16384 := by omega
                    have hqp : q ≤ ps.length := by omega
                    have hq1 : 1 ≤ q := by omega
                    obtain ⟨row, hrow⟩ : ∃ row, ps.take q = row := ⟨_, rfl⟩
                    obtain ⟨rest, hrest⟩ : ∃ rest, ps.drop q = rest := ⟨_, rfl⟩
                    rw [hrow, hrest] at HPG
                    have HRow : Aside0 ((Kd.int .i64).C w3 Ap row.length row) := ⟨by rw [← hrow]; exact C_take HCp.out q hqp⟩
                    have hrl : row.length = q := by rw [← hrow, List.length_take]; omega
                    have HRL := Aside0.mk hrl
                    have HRest : Aside0 ((Kd.int .i64).C w3 (if cp = q then Ap else Option.map (fun x => x.add q) Ap) rest.length rest) := ⟨by rw [← hrest]; exact C_from HCp.out hcp q hqp⟩
                    have hrel2 : rest.length = ps.length - q := by rw [← hrest, List.length_drop]
                    have HREL := Aside0.mk hrel2
                    have HDK : Aside0 (k2 ≤ 1048576) := ⟨by have := HD.out; omega⟩
                    clear hrow hrest hdb hrl hrel2
                    have hdk := HDK.out
                    have hdoc : -1 < la + 1 + d ∧ la + 1 + d ≤ 4398046511104 + (k2 + 1) * 16384 := by omega
                    have hxf2 := pw_cell_below (below_alloc (Below.refl wr.heap.size wr) (.cells #[.int .i64 (la + 1 + d), .slice none 0 0] 58)) hxf
                    go_wp2
                    obtain ⟨wq, rfl⟩ : ∃ wq, wq = wr := ⟨_, rfl⟩
                    clear hxf2 hst hxd
                    have HXF := Aside0.mk hxf
                    clear hxf
                    go_loopg [17, 104] row.length (fun kq v17 v104 w' => ∃ (j : Nat) (v : Value), v104 = .int .i64 j ∧ Aside0 (j ≤ row.length) ∧ v17 = .int .i64 (row.take j).sum ∧ Aside0 (w'.heap[wq.heap.size]? = some (.cells #[.int .i64 (la + 1 + d), v] 58 (0, 0))) ∧ Aside0 (Lx .i64 3 w' wq.heap.size v (sums 0 (row.take j))) ∧ Aside0 (Below wq.heap.size wq w') ∧ (0 ≤ (row.take j).sum ∧ (row.take j).sum ≤ j * 1048576) ∧ Aside0 (∀ x ∈ row.take j, offB x = false) ∧ Aside0 (row.length - j ≤ kq))
                    case atStart => exact ⟨0, _, rfl, ⟨Nat.zero_le _⟩, rfl, ⟨blk_new _ _⟩, ⟨Lx.nil _ _ _ _⟩, ⟨below_alloc (Below.refl _ _) _⟩, by simp, ⟨fun x hx => by simp at hx⟩, ⟨Nat.le_refl _⟩⟩
                    case round =>
                      obtain ⟨j, v, rfl, hj, rfl, HBX, HLX, HBI, hsm, HOF, HJ⟩ := hrel
                      have hjj := hj.out
                      have hrq := HRL.out
                      have hbx0 := blk_cell HBX.out 0
                      have hbx1 := blk_cell HBX.out 1
                      have hbf1 := blk_frozen HBX.out 1
                      by_cases hjl : j < row.length
                      · obtain ⟨ar, rfl, hxn⟩ := Kd.at_int HRow.out (j : Int) (by omega) (by omega)
                        rw [Int.toNat_natCast] at hxn
                        replace hxn := pw_cell_below HBI.out (pw_cell_below HB.out hxn)
                        have htk := take_rd row j hjl
                        have hrm : rd row j ∈ row := by
                          unfold rd
                          rw [Int.toNat_natCast, List.getD_eq_getElem?_getD, List.getElem?_eq_getElem hjl]
                          exact List.getElem_mem hjl
                        have hrd : row.getD j 0 = rd row j := by unfold rd; rw [Int.toNat_natCast]
                        rw [hrd] at htk
                        obtain ⟨x, hxe⟩ : ∃ x, rd row j = x := ⟨_, rfl⟩
                        rw [hxe] at hxn htk hrm
                        have HTK := Aside0.mk htk
                        have hsn := sums_snoc (row.take j) 0 x
                        rw [← htk, Int.zero_add] at hsn
                        have hsu : (row.take (j + 1)).sum = (row.take j).sum + x := by rw [htk, List.sum_append]; simp
                        have HSN := Aside0.mk hsn
                        have HSU := Aside0.mk hsu
                        have HSL : Aside0 ((sums 0 (row.take j)).length ≤ 1048576) := ⟨by rw [sums_length, List.length_take]; omega⟩
                        clear hxe hrd htk hsn hsu
                        obtain ⟨sj, hsj⟩ : ∃ sj, (row.take j).sum = sj := ⟨_, rfl⟩
                        obtain ⟨sl, hsl⟩ : ∃ sl, sums 0 (row.take j) = sl := ⟨_, rfl⟩
                        rw [hsj] at hsm HSN HSU ⊢
                        rw [hsl] at HSN HLX HSL
                        clear hsj hsl
                        by_cases hxb : x < 0 ∨ 1048576 < x
                        · have hany : row.any offB = true := List.any_eq_true.2 ⟨x, hrm, by unfold offB; exact decide_eq_true hxb⟩
                          rw [if_pos hany] at HPG
                          have HRN : Aside0 (R = ([], false)) := ⟨by rw [← HRR.out, ← HPG.out]⟩
                          have HFin := Aside0.mk (HX3.out.below.trans ((HB.out.trans (HBI.out.mono HB.out.size)).mono HW3.out))
                          clear hany
                          by_cases hx0 : x < 0
                          · go_wp2
                            go_ret2
                            have e := HRN.out
                            subst e
                            exact ⟨_, rfl, PxA.nil _ _ _, HFin.out⟩
                          · have hx1 : x > 1048576 := by omega
                            go_wp2
                            go_ret2
                            have e := HRN.out
                            subst e
                            exact ⟨_, rfl, PxA.nil _ _ _, HFin.out⟩
                        · obtain ⟨hx0, hx1⟩ : ¬ x < 0 ∧ ¬ x > 1048576 := by omega
                          have hx2 : 0 ≤ x ∧ x ≤ 1048576 := by omega
                          have hox : offB x = false := by unfold offB; exact decide_eq_false hxb
                          clear hxb hrm
                          have hsb : 0 ≤ sj + x ∧ sj + x ≤ 1099512676352 := by omega
                          go_wp2_with ((with_reducible refine gate_builtin (b := .append) (xs := #[.tmp 118, .tmp 120]) rfl ?_); at_builtin; refine Lx.append_one (w0 := wq) .i64 wq.heap.size rfl (.tmp 118) (.tmp 120) 52 3 8 rfl Try.underlying52 info3 (by decide) v sl (sj + x) rfl rfl ?aO ?aB ?aS ?aL ?_; (case aO => exact HLX.out); (case aB => exact HBI.out); (case aS => exact HBI.out.size); (case aL => have := HSL.out; omega); intro v1 w5 ho hb hg hat; obtain ⟨s2, hs2⟩ : ∃ s2, sl ++ [sj + x] = s2 := ⟨_, rfl⟩; rw [hs2] at ho; have HS2 := Aside0.mk hs2; clear hs2; obtain ⟨A9, c9, rfl, _, _⟩ := ho.reads; have hby := blk_grown HBX.out hg (fun e => by obtain ⟨cells, hcc⟩ := Lax.typed HLX.out _ e.symm; rw [HBX.out] at hcc; injection hcc with hcc; injection hcc with _ hcc; exact absurd hcc (by decide)); have hby1 := blk_cell hby 1; have hbyf := blk_frozen hby 1; have HBY := Aside0.mk hby; have HO5 := Aside0.mk ho; have HB5 := Aside0.mk hb; clear ho hb hg hat hby)
                          go_roundg (row.length - (j + 1))
                          case measure => have := HJ.out; omega
                          case rel => exact ⟨j + 1, .slice A9 s2.length c9, by first | rfl | (simp; done), ⟨by omega⟩, by first | (rw [HSU.out]; done) | (rw [HSU.out]; simp; done), ⟨blk_set HBY.out 1 _⟩, ⟨by
                            rw [HSN.out, HS2.out]
                            exact Lx.far (p := ⟨wq.heap.size, 1, none⟩) HO5.out (fun k hk => by
                              obtain ⟨cells, hcc⟩ := Lax.typed HO5.out k hk
                              intro e
                              have e : k = wq.heap.size := e
                              subst e
                              rw [HBY.out] at hcc
                              injection hcc with hcc
                              injection hcc with _ hcc
                              exact absurd hcc (by decide)) (.slice A9 s2.length c9)⟩, ⟨HB5.out.grown (grownBy_set _ wq.heap.size 1 _) HB5.out.size (fun k e => by injection e; omega)⟩, by rw [HSU.out]; omega, ⟨fun y hy => by
                              rw [HTK.out] at hy
                              rcases List.mem_append.1 hy with hy | hy
                              · exact HOF.out y hy
                              · rw [List.mem_singleton] at hy; rw [hy]; exact hox⟩, ⟨Nat.le_refl _⟩⟩
                      · have hje : j = row.length := by omega
                        have htk : row.take j = row := by rw [hje, List.take_length]
                        rw [htk] at HLX HOF
                        have hany : ¬ row.any offB = true := by
                          intro h
                          obtain ⟨x, hx, hb⟩ := List.any_eq_true.1 h
                          rw [HOF.out x hx] at hb
                          exact absurd hb (by decide)
                        rw [if_neg hany] at HPG
                        have hjl2 : ¬ (j : Int) < (row.length : Int) := by omega
                        have hxf3 := pw_cell_below HBI.out HXF.out
                        obtain ⟨Av, cv, rfl, hcv, hCv⟩ := HLX.out.reads
                        have hcm := Kd.C_max hCv
                        obtain ⟨sl, hsl⟩ : ∃ sl, sums 0 row = sl := ⟨_, rfl⟩
                        rw [hsl] at HLX HPG hCv hcv hcm hbx0 hbx1 HBX
                        clear hany hsl htk hCv
                        have hset : (wr.setCell ⟨wq.heap.size, 1, none⟩ (.slice Av sl.length sl.length)).heap[wq.heap.size]? = some (.cells #[.int .i64 (la + 1 + d), .slice Av sl.length sl.length] 58 (0, 0)) := blk_set HBX.out 1 _
                        have hse0 := blk_cell hset 0
                        have hse1 := blk_cell hset 1
                        have HBI2 : Aside0 (Below wq.heap.size wq (wr.setCell ⟨wq.heap.size, 1, none⟩ (.slice Av sl.length sl.length))) := ⟨HBI.out.grown (grownBy_set _ wq.heap.size 1 _) HBI.out.size (fun k e => by injection e; omega)⟩
                        have HP5 := Aside0.mk (HPX.out.below HBI2.out)
                        have HB5 := Aside0.mk (HB.out.trans (HBI2.out.mono HB.out.size))
                        have HY5 : Aside0 (Lx .i64 3 (wr.setCell ⟨wq.heap.size, 1, none⟩ (.slice Av sl.length sl.length)) wq.heap.size (.slice Av sl.length sl.length) sl) := ⟨(Lax.clip (Lx.far (p := ⟨wq.heap.size, 1, none⟩) HLX.out (fun k hk => by
                              obtain ⟨cells, hcc⟩ := Lax.typed HLX.out k hk
                              intro e
                              have e : k = wq.heap.size := e
                              subst e
                              rw [HBX.out] at hcc
                              injection hcc with hcc
                              injection hcc with _ hcc
                              exact absurd hcc (by decide)) (.slice Av sl.length sl.length)))⟩
                        clear hset
                        by_cases hcq : cp = q
                        · rw [if_pos hcq] at HRest
                          go_wp2_with (first | (go_at_call 87; ((with_reducible refine (ClipN_calls Av sl.length cv _ hcv hcm).mono ?_)); rintro e w6 ⟨rfl, rfl⟩) | ((with_reducible refine gate_builtin (b := .append) (xs := #[.tmp 135, .tmp 137]) rfl ?_); at_builtin; refine PxA.append_one (w0 := w3) w3.heap.size wq.heap.size rfl (.tmp 135) (.tmp 137) 22 rfl Try.underlying22 info58 u12 out ⟨la + 1 + d, sl⟩ (.slice Av sl.length sl.length) wr.heap.size (by simp [World.setCell]) rfl rfl ?aO ?aY ?aN ?aB ?aS ?aM ?aL ?_; (case aO => exact HP5.out); (case aY => exact HY5.out); (case aN => exact HB.out.size); (case aB => exact HB5.out); (case aS => exact HB5.out.size); (case aM => exact HBI2.out.size); (case aL => have h1 := HOL.out; have h2 := HDK.out; omega); intro v7 w7 hp7 hb7 hg7; have HP7 := Aside0.mk hp7.bound; have HB7 := Aside0.mk hb7; clear hp7 hb7 hg7))
                          go_roundg (ds.length - (k2 + 1))
                          case measure => have := HK.out; omega
                          case rel => exact ⟨k2 + 1, Ap, rest, cp - q, out ++ [⟨la + 1 + d, sl⟩], la + 1 + d, by first | rfl | (simp; done), ⟨by omega⟩, by first | (simp [HREL.out, hcq]; done) | (simp [HREL.out]; done), rfl, by have := HREL.out; omega, HRest, HP7, ⟨by rw [List.length_append]; have := HOL.out; simp; omega⟩, by omega, HPG, ⟨by have := HREL.out; omega⟩, HB7, ⟨Nat.le_refl _⟩⟩
                        · rw [if_neg hcq] at HRest
                          go_wp2_with (first | (go_at_call 87; ((with_reducible refine (ClipN_calls Av sl.length cv _ hcv hcm).mono ?_)); rintro e w6 ⟨rfl, rfl⟩) | ((with_reducible refine gate_builtin (b := .append) (xs := #[.tmp 135, .tmp 137]) rfl ?_); at_builtin; refine PxA.append_one (w0 := w3) w3.heap.size wq.heap.size rfl (.tmp 135) (.tmp 137) 22 rfl Try.underlying22 info58 u12 out ⟨la + 1 + d, sl⟩ (.slice Av sl.length sl.length) wr.heap.size (by simp [World.setCell]) rfl rfl ?aO ?aY ?aN ?aB ?aS ?aM ?aL ?_; (case aO => exact HP5.out); (case aY => exact HY5.out); (case aN => exact HB.out.size); (case aB => exact HB5.out); (case aS => exact HB5.out.size); (case aM => exact HBI2.out.size); (case aL => have h1 := HOL.out; have h2 := HDK.out; omega); intro v7 w7 hp7 hb7 hg7; have HP7 := Aside0.mk hp7.bound; have HB7 := Aside0.mk hb7; clear hp7 hb7 hg7))
                          go_roundg (ds.length - (k2 + 1))
                          case measure => have := HK.out; omega
                          case rel => exact ⟨k2 + 1, (Option.map (fun x => x.add q) Ap), rest, cp - q, out ++ [⟨la + 1 + d, sl⟩], la + 1 + d, by first | rfl | (simp; done), ⟨by omega⟩, by first | (simp [HREL.out, hcq]; done) | (simp [HREL.out]; done), rfl, by have := HREL.out; omega, HRest, HP7, ⟨by rw [List.length_append]; have := HOL.out; simp; omega⟩, by omega, HPG, ⟨by have := HREL.out; omega⟩, HB7, ⟨Nat.le_refl _⟩⟩
                · have hke : k2 = ds.length := by have := hk2.out; omega
                  have hdr : ds.drop k2 = [] := List.drop_eq_nil_of_le (by omega)
                  rw [hdr, pGo] at HPG
                  have HRN := Aside0.mk HRR.out
                  rw [← HPG.out] at HRN
                  have hlt2 : ¬ (k2 : Int) < (ds.length : Int) := by omega
                  have HFin := Aside0.mk (HX3.out.below.trans (HB.out.mono HW3.out))
                  clear hdr HRR
                  go_wp2
                  go_quiet (fail)
                  go_wp2
                  go_ret2
                  have e := HRN.out
                  subst e
                  refine ⟨_, rfl, ?_, ?_⟩
                  · exact (PxA.below (PxA.lower HPX.out HW3.out) (pw_below_drewN (Below.refl _ _) _)).bound
                  · exact HFin.out.trans ((pw_below_drewN (Below.refl _ _) _).mono HFin.out.size)
            · have h3i : (b3.length : Int) > 0 := by omega
              rw [if_pos (.inr (by intro e; rw [e] at h3; exact h3 rfl))] at HRR
              have hpi : (pl.length : Int) = m := by omega
              clear h3
              go_wp2_with (go_at_call 85; ((with_reducible refine HT3.out.mono ?_)); rintro e w3 ⟨v3, A3, c3, rfl, ho3, hb3, hc3, hC3, hg3⟩; have HX3 := Aside0.mk (HX2.out.took hg3 hb3); have HO3 := Aside0.mk (Lax.lower ho3 HX2.out.below.size); have HO13 := Aside0.mk (Lx.took HO1b.out HX2.out.bx hg3 (Nat.le_refl _)); have HO23 := Aside0.mk (Lx.took HO2.out HX2.out.bx hg3 (Nat.le_refl _)); obtain ⟨Ap, cp, rfl, hcp, hCp⟩ := ho3.reads; have HCp := Aside0.mk hCp; clear hs0 hs1 hs2 hs3 hs4; have hs0 := blk_cell HX3.out.st 0; have hs1 := blk_cell HX3.out.st 1; have hs2 := blk_cell HX3.out.st 2; have hs3 := blk_cell HX3.out.st 3; have hs4 := blk_cell HX3.out.bx 0; clear ho3 hb3 hC3 hg3 hCp)
              go_ret2
              have e := HRR.out
              subst e
              exact ⟨_, rfl, PxA.nil _ _ _, HX3.out.below⟩
          · have hpi : ¬ (pl.length : Int) = m := by omega
            rw [if_pos (.inl hpi)] at HRR
            go_wp2_with (go_at_call 85; ((with_reducible refine HT3.out.mono ?_)); rintro e w3 ⟨v3, A3, c3, rfl, ho3, hb3, hc3, hC3, hg3⟩; have HX3 := Aside0.mk (HX2.out.took hg3 hb3); have HO3 := Aside0.mk (Lax.lower ho3 HX2.out.below.size); have HO13 := Aside0.mk (Lx.took HO1b.out HX2.out.bx hg3 (Nat.le_refl _)); have HO23 := Aside0.mk (Lx.took HO2.out HX2.out.bx hg3 (Nat.le_refl _)); obtain ⟨Ap, cp, rfl, hcp, hCp⟩ := ho3.reads; have HCp := Aside0.mk hCp; clear hs0 hs1 hs2 hs3 hs4; have hs0 := blk_cell HX3.out.st 0; have hs1 := blk_cell HX3.out.st 1; have hs2 := blk_cell HX3.out.st 2; have hs3 := blk_cell HX3.out.st 3; have hs4 := blk_cell HX3.out.bx 0; clear ho3 hb3 hC3 hg3 hCp)
            go_ret2
            have e := HRR.out
            subst e
            exact ⟨_, rfl, PxA.nil _ _ _, HX3.out.below⟩
    · rw [if_pos (.inr hf)] at HRR
      have hfn : ¬ (fs.length : Int) = n := by omega
      go_wp2_with (first | (go_at_call 85; ((with_reducible refine (T2.out _ A1 c1 HX1.out.bx HC1.out hc1 HX1.out.below).mono ?_)); rintro e w2 ⟨v2, A2, c2, rfl, ho2, hb2, hc2, hC2, hg2⟩; have HX2 := Aside0.mk (HX1.out.took hg2 hb2); have HO2 := Aside0.mk (Lax.lower ho2 HX1.out.below.size); have HO1b := Aside0.mk (Lx.took HO1.out HX1.out.bx hg2 (Nat.le_refl _)); have HC2 := Aside0.mk hC2; obtain ⟨Af, cf, rfl, hcf, hCf⟩ := ho2.reads; have HCf := Aside0.mk hCf; have hs0 := blk_cell HX2.out.st 0; have hs1 := blk_cell HX2.out.st 1; have hs2 := blk_cell HX2.out.st 2; have hs3 := blk_cell HX2.out.st 3; have hs4 := blk_cell HX2.out.bx 0; clear ho2 hb2 hC2 hg2 hCf hn3) | (go_at_call 85; ((with_reducible refine (T1.out _ (Hold.new _ _ _ _ _ _ _).bx (Hold.new _ _ _ _ _ _ _).below).mono ?_)); rintro e w1 ⟨v1, A1, c1, rfl, ho1, hb1, hc1, hC1, hg1⟩; have HX1 := Aside0.mk ((Hold.new w A bs.length c ahead last n).took hg1 hb1); have HO1 := Aside0.mk (Lax.lower ho1 (show w.heap.size ≤ _ by simp; omega)); have HC1 := Aside0.mk hC1; obtain ⟨Ad, cd, rfl, hcd, hCd⟩ := ho1.reads; have HCd := Aside0.mk hCd; have hn3 := blk_cell HX1.out.st 3; clear ho1 hb1 hC1 hg1 hCd))
      go_ret2
      have e := HRR.out; subst e; exact ⟨_, rfl, PxA.nil _ _ _, HX2.out.below⟩
  · rw [if_pos (.inl hd)] at HRR
    have hfn : ¬ (ds.length : Int) = n := by omega
    go_wp2_with (first | (go_at_call 85; ((with_reducible refine (T2.out _ A1 c1 HX1.out.bx HC1.out hc1 HX1.out.below).mono ?_)); rintro e w2 ⟨v2, A2, c2, rfl, ho2, hb2, hc2, hC2, hg2⟩; have HX2 := Aside0.mk (HX1.out.took hg2 hb2); have HO2 := Aside0.mk (Lax.lower ho2 HX1.out.below.size); have HO1b := Aside0.mk (Lx.took HO1.out HX1.out.bx hg2 (Nat.le_refl _)); have HC2 := Aside0.mk hC2; obtain ⟨Af, cf, rfl, hcf, hCf⟩ := ho2.reads; have HCf := Aside0.mk hCf; have hs0 := blk_cell HX2.out.st 0; have hs1 := blk_cell HX2.out.st 1; have hs2 := blk_cell HX2.out.st 2; have hs3 := blk_cell HX2.out.st 3; have hs4 := blk_cell HX2.out.bx 0; clear ho2 hb2 hC2 hg2 hCf hn3) | (go_at_call 85; ((with_reducible refine (T1.out _ (Hold.new _ _ _ _ _ _ _).bx (Hold.new _ _ _ _ _ _ _).below).mono ?_)); rintro e w1 ⟨v1, A1, c1, rfl, ho1, hb1, hc1, hC1, hg1⟩; have HX1 := Aside0.mk ((Hold.new w A bs.length c ahead last n).took hg1 hb1); have HO1 := Aside0.mk (Lax.lower ho1 (show w.heap.size ≤ _ by simp; omega)); have HC1 := Aside0.mk hC1; obtain ⟨Ad, cd, rfl, hcd, hCd⟩ := ho1.reads; have HCd := Aside0.mk hCd; have hn3 := blk_cell HX1.out.st 3; clear ho1 hb1 hC1 hg1 hCd))
    go_ret2
    have e := HRR.out; subst e; exact ⟨_, rfl, PxA.nil _ _ _, HX2.out.below⟩
theorem posts_calls (A : Option Addr) (bs : List Int) (c n : Nat) (ahead last : Int) (w : World) (h : (Kd.int .u8).C w A bs.length bs) (hc : bs.length ≤ c) (hl : bs.length ≤ 140737488355328) (hr : ∀ x ∈ bs, 0 ≤ x ∧ x < 256) (hn : n ≤ 1048576) (hn1 : 1 ≤ n) (ha : -1 ≤ ahead ∧ ahead ≤ 4398046511104) :
    Calls Try.prog 53 #[.agg #[.slice A bs.length c, .int .i64 ahead, .int .i64 last, .int .i64 n]] w fun e w' => ∃ v, e = .returned (.tuple #[v, .bool (postsF bs ahead last n).2]) ∧ Px w' w.heap.size v (postsF bs ahead last n).1 ∧ Below w.heap.size w w' :=
  (postsA_calls A bs c n ahead last w h hc hl hr hn hn1 ha).mono fun e w' ⟨v, h1, h2, h3⟩ => ⟨v, h1, h2.px, h3⟩
end Go.Proofs.Ytimlgpfcgklddaa.P
namespace Go.Proofs.Ytimlgpfcgklddaa
open Go.RowKit Go.Proofs.YtimlgpfcgklddaaW.PrintWords
/-- Where a walk stands: the posts at hand, the place among them, the block behind. -/
structure ISt where
  posts : List P.S58
  at' : Int
  nx : Nat
def ISt.here (s : ISt) : Prop := 0 ≤ s.at' ∧ s.at' < s.posts.length
instance (s : ISt) : Decidable s.here := by unfold ISt.here; infer_instance
structure BlkOk (p : Blk) : Prop where
  len : p.b.length ≤ 140737488355328
  range : ∀ x ∈ p.b, 0 ≤ x ∧ x < 256
  n1 : 1 ≤ p.n
  n2 : p.n ≤ 1048576
  ahead : -1 ≤ p.ahead ∧ p.ahead ≤ 4398046511104
  ok : (postsF p.b p.ahead p.last p.n).2 = true
/-- A list lies at block L. -/
structure Lst (w : World) (L base : Nat) (bl : List Blk) : Prop where
  v : ∃ vb n, w.heap[L]? = some (.cells #[vb, .int .i64 n] 93 (0, 0)) ∧ Bx w base vb bl
  ok : ∀ p ∈ bl, BlkOk p
  len : bl.length ≤ 16384
/-- A walk lies at block I, over the list at L. -/
structure Itr (w : World) (I base L : Nat) (bl : List Blk) (s : ISt) : Prop where
  v : ∃ vp, w.heap[I]? = some (.cells #[vp, .int .i64 s.at', .pointer (some ⟨L, 0, none⟩), .int .i64 (s.nx : Int)] 103 (0, 0)) ∧ Px w base vp s.posts
  l : Lst w L base bl
  at0 : -1 ≤ s.at' ∧ s.at' ≤ 1048576
  nx : s.nx ≤ 1073741824
  plen : s.posts.length ≤ 1048576
theorem Lst.below {w w' : World} {L base : Nat} {bl : List Blk} (h : Lst w L base bl) (hb : Below w.heap.size w w') : Lst w' L base bl := by
  obtain ⟨vb, n, h1, h2⟩ := h.v
  exact ⟨⟨vb, n, blk_below h1 hb, h2.below hb⟩, h.ok, h.len⟩
theorem Itr.below {w w' : World} {I L base : Nat} {bl : List Blk} {s : ISt} (h : Itr w I base L bl s) (hb : Below w.heap.size w w') : Itr w' I base L bl s := by
  obtain ⟨vp, h1, h2⟩ := h.v
  exact ⟨⟨vp, blk_below h1 hb, h2.below hb⟩, h.l.below hb, h.at0, h.nx, h.plen⟩
theorem Lst.keep {w w' : World} {L base I : Nat} {bl : List Blk} {cells : Array Value} (h : Lst w L base bl) (hI : w.heap[I]? = some (.cells cells 103 (0, 0))) (hg : w.grownBy w' (some I)) : Lst w' L base bl := by
  obtain ⟨vb, n, h1, h2⟩ := h.v
  refine ⟨⟨vb, n, blk_grown h1 hg (fun e => by injection e with e; subst e; exact block_ne h1 hI (by decide)), h2.grown hg fun k e => by injection e with e; subst e; exact ⟨_, _, hI, by decide, by decide⟩⟩, h.ok, h.len⟩
def ISt.post (s : ISt) : P.S58 := s.posts.getD s.at'.toNat P.z58
def docF (s : ISt) : Int := if s.here then s.post.f0 else if s.at' < 0 then -1 else 16384
def freqF (s : ISt) : Int := if s.here then (s.post.f1.length : Int) else 0
end Go.Proofs.Ytimlgpfcgklddaa
namespace Go.Proofs.Ytimlgpfcgklddaa.P
open Go.RowKit Go.Shelf Go.Proofs.YtimlgpfcgklddaaW.PrintWords Go.Proofs.YtimlgpfcgklddaaW.PrintLast Go.Proofs.YtimlgpfcgklddaaW.PrintMore
set_option linter.unusedVariables false
set_option linter.unusedSimpArgs false
theorem Iter_calls (L base : Nat) (bl : List Blk) (w : World) (h : Lst w L base bl) (hb : base ≤ w.heap.size) :
    Calls Try.prog 17 #[.pointer (some ⟨L, 0, none⟩)] w fun e w' => e = .returned (.pointer (some ⟨w.heap.size, 0, none⟩)) ∧ Itr w' w.heap.size base L bl ⟨[], -1, 0⟩ ∧ Below w.heap.size w w' := by
  have HL := Aside0.mk h
  clear h
  go_enter Try.func17, Try.ntmps17
  go_wp2
  go_ret
  exact ⟨rfl, ⟨⟨_, blk_new w _, Px.nil _ _⟩, HL.out.below (below_alloc (Below.refl _ _) _), by decide, by decide, by decide⟩, below_alloc (Below.refl _ _) _⟩
set_option maxHeartbeats 1000000 in
theorem here_calls (I base L : Nat) (bl : List Blk) (s : ISt) (w : World) (h : Itr w I base L bl s) :
    Calls Try.prog 57 #[.pointer (some ⟨I, 0, none⟩)] w fun e w' => e = .returned (.bool (decide s.here)) ∧ Drawn0 w w' := by
  obtain ⟨vp, h1, h2⟩ := h.v
  obtain ⟨A, c, rfl, hc, hC⟩ := h2.reads
  have hm := Kd.C_max hC
  have hc0 := blk_cell h1 0
  have hc1 := blk_cell h1 1
  obtain ⟨posts, at_, nx⟩ := s
  dsimp only at hm hc hc0 hc1
  have HH : (⟨posts, at_, nx⟩ : ISt).here ↔ 0 ≤ at_ ∧ at_ < posts.length := Iff.rfl
  have HX := Aside0.mk HH
  clear h h1 h2 hC HH
  by_cases ha : 0 ≤ at_
  · by_cases hb : at_ < posts.length
    · have hd : decide (⟨posts, at_, nx⟩ : ISt).here = true := decide_eq_true (HX.out.2 ⟨ha, hb⟩)
      rw [hd]
      clear hd
      go_enter Try.func57, Try.ntmps57
      go_wp2
      go_quiet (fail)
      go_wp2
      go_ret
      exact ⟨rfl, ⟨_, rfl⟩⟩
    · have hd : decide (⟨posts, at_, nx⟩ : ISt).here = false := decide_eq_false (fun e => hb (HX.out.1 e).2)
      rw [hd]
      clear hd
      have hbd : decide (at_ < (posts.length : Int)) = false := decide_eq_false hb
      clear hb
      go_enter Try.func57, Try.ntmps57
      go_wp2
      go_quiet (fail)
      go_wp2
      go_ret
      exact ⟨rfl, ⟨_, rfl⟩⟩
  · have hd : decide (⟨posts, at_, nx⟩ : ISt).here = false := decide_eq_false (fun e => ha (HX.out.1 e).1)
    rw [hd]
    clear hd
    have had : decide (0 ≤ at_) = false := decide_eq_false ha
    have had2 : decide (at_ ≥ 0) = false := decide_eq_false ha
    clear ha
    go_enter Try.func57, Try.ntmps57
    go_wp2
    go_quiet (fail)
    go_wp2
    go_ret
    exact ⟨rfl, ⟨_, rfl⟩⟩
end Go.Proofs.Ytimlgpfcgklddaa.P
