/-
Texts of this seat, laid together: P7, S1, P8, E0.
-/
import Derived.Test.YtimlgpfcgklddaaQF12
import Derived.Test.YtimlgpfcgklddaaQP1
import Derived.Test.YtimlgpfcgklddaaQP2
import Derived.Test.YtimlgpfcgklddaaQM14
import Derived.Test.YtimlgpfcgklddaaQT1
namespace Go.Proofs.Ytimlgpfcgklddaa
def fillI (m i : Nat) : List Int := (List.range m).map fun k : Nat => (1000 * (i : Int) + (k : Int))
def tailI (i : Nat) : List Int := (List.range 30).map fun k : Nat => (500000 + 1000 * (i : Int) + (k : Int))
theorem fillI_len (m i : Nat) : (fillI m i).length = m := by simp [fillI]
theorem fillI_get (m i t : Nat) (h : t < m) : (fillI m i).getD t 0 = (1000 * (i : Int) + (t : Int)) := by
  unfold fillI
  rw [List.getD_eq_getElem?_getD]
  simp [h]
theorem fillI_eq {l : List Int} {m i : Nat} (hl : l.length = m) (h : ∀ t, t < m → l.getD t 0 = (1000 * (i : Int) + (t : Int))) : l = fillI m i := by
  apply List.ext_getElem?
  intro t
  by_cases ht : t < m
  · have h1 := h t ht
    rw [List.getD_eq_getElem?_getD, List.getElem?_eq_getElem (by omega)] at h1
    rw [List.getElem?_eq_getElem (by omega)]
    have h2 := fillI_get m i t ht
    rw [List.getD_eq_getElem?_getD, List.getElem?_eq_getElem (by rw [fillI_len]; exact ht)] at h2
    rw [List.getElem?_eq_getElem (by rw [fillI_len]; exact ht)]
    simp only [Option.getD_some] at h1 h2
    rw [h1, h2]
  · rw [List.getElem?_eq_none (by omega), List.getElem?_eq_none (by rw [fillI_len]; omega)]
theorem tailI_len (i : Nat) : (tailI i).length = 30 := by simp [tailI]
theorem tailI_get (i t : Nat) (h : t < 30) : (tailI i).getD t 0 = (500000 + 1000 * (i : Int) + (t : Int)) := by
  unfold tailI
  rw [List.getD_eq_getElem?_getD]
  simp [h]
end Go.Proofs.Ytimlgpfcgklddaa
namespace Go.Proofs.Ytimlgpfcgklddaa.P
open Go.RowKit Go.Shelf Go.Proofs.YtimlgpfcgklddaaW.PrintWords Go.Proofs.YtimlgpfcgklddaaW.PrintLast Go.Proofs.YtimlgpfcgklddaaW.PrintMore
set_option linter.unusedVariables false
set_option linter.unusedSimpArgs false
theorem info52 : (Try.prog.info? 52).map (fun i => (i.zero, i.size, i.bytes)) = some (some (.slice none 0 0), 1, 24) := by kernel_rfl
set_option maxRecDepth 100000 in
set_option maxHeartbeats 4000000 in
theorem ApartInts_calls (gA n cA base : Nat) (cs : Array Value) (v : Nat → Value) (xs : Nat → List Int) (w : World) (hA : w.heap[gA]? = some (.cells cs 52 (0, 0))) (hcs : ∀ j, j < n → cs[j]? = some (v j)) (hap : Ap .i64 3 w base n v xs) (hbase : base ≤ w.heap.size) (hn : n ≤ 100000) (hc : n ≤ cA) (hm : ∀ j, j < n → (xs j).length ≤ 2000000) :
    Calls Try.prog 70 #[.slice (some ⟨gA, 0, none⟩) n cA] w fun e w' => e = .returned (.bool true) ∧ Below base w w' := by
  have HA := Aside0.mk hA
  have HCS := Aside0.mk hcs
  have HAP := Aside0.mk hap
  have HM := Aside0.mk hm
  have HV : Aside0 (∀ j, j < n → ∃ A c, v j = .slice A (xs j).length c ∧ (xs j).length ≤ c) := ⟨fun j hj => by obtain ⟨A, c, e, hc, _⟩ := (hap.own j hj).reads; exact ⟨A, c, e, hc⟩⟩
  have HAL := Aside0.mk (blk_lt hA)
  clear hA hcs hap hm
  go_enter Try.func70, Try.ntmps70
  go_wp2
  go_loopg [3] n (fun kq v3 w' => ∃ (i : Nat) (ys : Nat → List Int), v3 = .int .i64 i ∧ Aside0 (i ≤ n) ∧ Aside0 (Ap .i64 3 w' base n v ys) ∧ Aside0 (∀ j, j < n → (ys j).length = (xs j).length) ∧ Aside0 (∀ j, j < i → ys j = fillI (xs j).length j) ∧ Aside0 (Below base w w') ∧ Aside0 (w'.heap[gA]? = some (.cells cs 52 (0, 0))) ∧ Aside0 (n - i ≤ kq))
  case atStart => exact ⟨0, xs, rfl, ⟨Nat.zero_le _⟩, HAP, ⟨fun _ _ => rfl⟩, ⟨fun j hj => by omega⟩, ⟨Below.refl _ _⟩, HA, ⟨Nat.le_refl _⟩⟩
  case round =>
    clear HAP HA
    obtain ⟨i, ys, rfl, hi, HAP, HLY, HFY, HB, HA, HK⟩ := hrel
    have hii := hi.out
    by_cases hlt : i < n
    · obtain ⟨Ai, ci, hvi, hmci⟩ := HV.out i hlt
      have hmm := HM.out i hlt
      have HVI := Aside0.mk hvi
      obtain ⟨m, hme⟩ : ∃ m, (xs i).length = m := ⟨_, rfl⟩
      rw [hme] at HVI hmm hmci
      have HME := Aside0.mk hme
      clear hvi hme
      go_wp2
      go_loopg [4] m (fun kq v4 w' => ∃ (q : Nat) (ys : Nat → List Int), v4 = .int .i64 q ∧ Aside0 (q ≤ m) ∧ Aside0 (Ap .i64 3 w' base n v ys) ∧ Aside0 (∀ j, j < n → (ys j).length = (xs j).length) ∧ Aside0 (∀ j, j < i → ys j = fillI (xs j).length j) ∧ Aside0 (∀ t, t < q → (ys i).getD t 0 = (1000 * (i : Int) + (t : Int))) ∧ Aside0 (Below base w w') ∧ Aside0 (w'.heap[gA]? = some (.cells cs 52 (0, 0))) ∧ Aside0 (m - q ≤ kq))
      case atStart => exact ⟨0, ys, rfl, ⟨Nat.zero_le _⟩, HAP, HLY, HFY, ⟨fun t ht => by omega⟩, HB, HA, ⟨Nat.le_refl _⟩⟩
      case round =>
        clear HAP HLY HFY HB HA
        obtain ⟨q, ys, rfl, hq, HAP, HLY, HFY, HQ, HB, HA, HJ⟩ := hrel
        have hqq := hq.out
        have hcA := blk_cell HA.out i
        rw [HCS.out i hlt, HVI.out] at hcA
        have hcA2 : wr.cell? ((⟨gA, 0, none⟩ : Addr).add i) = some (.slice Ai m ci) := by rw [add_plain]; exact hcA
        by_cases hqm : q < m
        · have hli : (ys i).length = m := (HLY.out i hlt).trans HME.out
          have hown := HAP.out.own i hlt
          rw [HVI.out] at hown
          obtain ⟨g, rfl, hcell⟩ := Rdv.get hown.rdv q (by omega)
          have hcell2 : wr.cell? ((⟨g, 0, none⟩ : Addr).add q) = some (.int .i64 ((ys i).getD q 0)) := by rw [add_plain]; exact hcell
          obtain ⟨cg, hcg⟩ := Lax.typed hown g rfl
          have hfr := blk_frozen hcg q
          have hfr2 : wr.frozen? ((⟨g, 0, none⟩ : Addr).add q) = false := by rw [add_plain]; exact hfr
          have hgb := Lax.base_le hown g rfl
          have HCG := Aside0.mk hcg
          clear hown hcg
          go_wp2
          go_roundg (m - (q + 1))
          case measure => have := HJ.out; omega
          case rel => exact ⟨q + 1, upd ys i ((ys i).set q (1000 * (i : Int) + (q : Int))), by first | rfl | (simp; done), ⟨hqm⟩, ⟨HAP.out.store i hlt HVI.out q _⟩, ⟨fun j hj => by
            by_cases he : j = i
            · subst he; rw [upd_at, List.length_set]; exact HLY.out j hj
            · rw [upd_ne _ _ he]; exact HLY.out j hj⟩, ⟨fun j hj => by rw [upd_ne _ _ (by omega)]; exact HFY.out j hj⟩, ⟨fun t ht => by
            rw [upd_at, set_getD _ _ _ _ (by omega)]
            split
            · rename_i e; rw [e]
            · exact HQ.out t (by omega)⟩, ⟨HB.out.grown (grownBy_set wr g q _) (Nat.le_trans hbase HB.out.size) (fun k e => by injection e with e; omega)⟩, ⟨blk_far HA.out (p := ⟨g, q, none⟩) (fun e => by have e : gA = g := e; rw [e] at HA; exact block_ne HA.out HCG.out (by decide)) _⟩, ⟨Nat.le_refl _⟩⟩
        · have hqe : q = m := by omega
          have hfi : ys i = fillI (xs i).length i := by
            rw [HME.out]
            exact fillI_eq ((HLY.out i hlt).trans HME.out) (fun t ht => HQ.out t (by omega))
          have hql : ¬ (q : Int) < (m : Int) := by omega
          have HFI := Aside0.mk hfi
          clear hfi
          go_wp2
          go_roundg (n - (i + 1))
          case measure => have := HK.out; omega
          case rel => exact ⟨i + 1, ys, by first | rfl | (simp; done), ⟨hlt⟩, HAP, HLY, ⟨fun j hj => by
            rcases Nat.lt_or_ge j i with h1 | h1
            · exact HFY.out j h1
            · have : j = i := by omega
              subst this
              exact HFI.out⟩, HB, HA, ⟨Nat.le_refl _⟩⟩
    · have hin : i = n := by omega
      obtain ⟨fs, hfs⟩ : ∃ fs : Nat → List Int, fs = fun j => fillI (xs j).length j := ⟨_, rfl⟩
      have HFS := Aside0.mk hfs
      have HAF : Aside0 (Ap .i64 3 wr base n v fs) := ⟨⟨fun j hj => by rw [hfs]; have := HAP.out.own j hj; rw [HFY.out j (by omega)] at this; exact this, HAP.out.apart⟩⟩
      have HFL : Aside0 (∀ j, (fs j).length = (xs j).length) := ⟨fun j => by rw [hfs]; exact fillI_len _ _⟩
      clear hfs HAP HLY HFY
      have hile : ¬ (i : Int) < (n : Int) := by omega
      go_wp2
      go_loopg [5, 6] n (fun kq v5 v6 w' => ∃ (i : Nat) (u : Nat → Value) (us : Nat → List Int), v6 = .int .i64 i ∧ Aside0 (i ≤ n) ∧ Aside0 (Go2 .i64 3 w' base n v fs i u us) ∧ Aside0 (∀ j, j < i → us j = fs j ++ tailI j) ∧ Aside0 (Lax w' w.heap.size 52 1 v5 i ((List.range i).map u)) ∧ Aside0 (Below base w w') ∧ Aside0 (w'.heap[gA]? = some (.cells cs 52 (0, 0))) ∧ Aside0 (n - i ≤ kq))
      case atStart => exact ⟨0, v, fs, rfl, ⟨Nat.zero_le _⟩, ⟨HAF.out.go2 v fs⟩, ⟨fun j hj => by omega⟩, ⟨Lax.nil _ _ _ _⟩, HB, HA, ⟨Nat.le_refl _⟩⟩
      case round =>
        clear HAF HB HA hile hin
        obtain ⟨i, u, us, rfl, hi, HGO, HUS, HLO, HB, HA, HK⟩ := hrel
        have hii := hi.out
        have hcA := blk_cell HA.out i
        by_cases hlt : i < n
        · rw [HCS.out i hlt] at hcA
          obtain ⟨Ai, ci, hvi, hmci⟩ := HV.out i hlt
          have hmm := HM.out i hlt
          have hown0 := HGO.out.own i hlt
          rw [if_neg (Nat.lt_irrefl _), if_neg (Nat.lt_irrefl _)] at hown0
          have HS0 := Aside0.mk (Goes.start hown0)
          have hvlt : ∀ g, (v i).ownBlock = some g → g < wr.heap.size := fun g hg => Lax.lt hown0 g hg
          have HVLT := Aside0.mk hvlt
          obtain ⟨vi, hvie⟩ : ∃ x, v i = x := ⟨_, rfl⟩
          have HVIE := Aside0.mk hvie
          rw [hvie] at hcA hvi HS0 HVLT
          subst hvi
          have hfl := HFL.out i
          obtain ⟨fi, hfi⟩ : ∃ f, fs i = f := ⟨_, rfl⟩
          have HFI := Aside0.mk hfi
          rw [hfi] at HS0 hfl
          have HFLI := Aside0.mk (show fi.length ≤ 2000000 by omega)
          obtain ⟨m, hme⟩ : ∃ m, (xs i).length = m := ⟨_, rfl⟩
          rw [hme] at hcA hmci hmm HVIE HS0 HVLT
          clear hown0 hvlt hvie hfi hfl hme
          obtain ⟨W0, hW0⟩ : ∃ W0, W0 = wr := ⟨_, rfl⟩
          have HSZ0 := Aside0.mk (show base ≤ W0.heap.size ∧ w.heap.size ≤ W0.heap.size by rw [hW0]; exact ⟨Nat.le_trans hbase HB.out.size, HB.out.size⟩)
          rw [← hW0] at HGO HS0 HVLT
          have HW0 := Aside0.mk hW0
          clear hW0
          go_wp2
          go_loopg [7, 8] 30 (fun kq v7 v8 w' => ∃ (q : Nat), v8 = .int .i64 q ∧ Aside0 (q ≤ 30) ∧ Aside0 (Goes .i64 3 W0 w' base (.slice Ai m ci) fi v7 (fi ++ (tailI i).take q)) ∧ Aside0 (Lax w' w.heap.size 52 1 u5 i ((List.range i).map u)) ∧ Aside0 (Below base w w') ∧ Aside0 (w'.heap[gA]? = some (.cells cs 52 (0, 0))) ∧ Aside0 (30 - q ≤ kq))
          case atStart => exact ⟨0, rfl, ⟨Nat.zero_le _⟩, by rw [← HW0.out]; simpa using HS0, HLO, HB, HA, ⟨Nat.le_refl _⟩⟩
          case round =>
            clear HS0 HLO HB HA hcA
            obtain ⟨q, rfl, hq, HS, HLO, HB, HA, HJ⟩ := hrel
            have hqq := hq.out
            by_cases hqm : q < 30
            · have htk : fi ++ (tailI i).take (q + 1) = fi ++ (tailI i).take q ++ [(500000 + 1000 * (i : Int) + (q : Int))] := by
                rw [take_rd (tailI i) q (by rw [tailI_len]; exact hqm), tailI_get i q hqm, List.append_assoc]
              have HTK := Aside0.mk htk
              have HZL : Aside0 ((fi ++ (tailI i).take q).length ≤ 2000030) := ⟨by rw [List.length_append, List.length_take, tailI_len]; have := HFLI.out; omega⟩
              obtain ⟨zs, hzs⟩ : ∃ zs, fi ++ (tailI i).take q = zs := ⟨_, rfl⟩
              rw [hzs] at HTK HZL HS
              clear htk hzs
              have HBS := Aside0.mk (show base ≤ wr.heap.size from Nat.le_trans hbase HB.out.size)
              go_wp2_with ((with_reducible refine gate_builtin (b := .append) (xs := #[.tmp 52, .tmp 58]) rfl ?_); at_builtin; refine Lx.append_one2 .i64 base rfl (.tmp 52) (.tmp 58) 52 3 8 rfl Try.underlying52 info3 (by decide) u7 zs (500000 + 1000 * (i : Int) + (q : Int)) rfl rfl HS.out.own HBS.out (by have := HZL.out; omega) ?_; intro v1 w1 ho hat; have HS1 := Aside0.mk (HS.out.step HVLT.out ho hat); have HAT := Aside0.mk hat; clear ho hat)
              have hrow : ∀ {P : Prop}, ((∃ row : Option Nat, wr.grownBy w1 row ∧ ∀ g, row = some g → base ≤ g ∧ ∃ cells, wr.heap[g]? = some (.cells cells 3 (0, 0))) → P) → P := fun hP => hP (by
                rcases HAT.out with ⟨_, hg⟩ | ⟨_, hg⟩
                · exact ⟨_, hg, fun g hgr => ⟨Lax.base_le HS.out.own g hgr, Lax.typed HS.out.own g hgr⟩⟩
                · exact ⟨none, hg, fun g hgr => by cases hgr⟩)
              obtain ⟨row, hg, hty⟩ := hrow id
              go_roundg (30 - (q + 1))
              case measure => have := HJ.out; omega
              case rel => exact ⟨q + 1, by first | rfl | (simp; done), ⟨hqm⟩, ⟨by rw [HTK.out]; exact HS1.out⟩, ⟨HLO.out.grown hg (fun k hk e => by obtain ⟨_, cc, h1⟩ := hty k e.symm; obtain ⟨c2, h2⟩ := HLO.out.typed k hk; exact block_ne h1 h2 (by decide))⟩, ⟨HB.out.grown hg HBS.out (fun k e => (hty k e).1)⟩, ⟨blk_grown HA.out hg (fun e => by obtain ⟨_, cc, h1⟩ := hty gA e.symm; exact block_ne h1 HA.out (by decide))⟩, ⟨Nat.le_refl _⟩⟩
            · have hqe : q = 30 := by omega
              subst hqe
              have htk : (tailI i).take 30 = tailI i := List.take_of_length_le (by rw [tailI_len]; exact Nat.le_refl _)
              rw [htk] at HS
              have hNX := HGO.out.next hlt (x := u7) (zs := fi ++ tailI i) (by rw [HVIE.out, HFI.out]; exact HS.out)
              have HNX := Aside0.mk hNX
              obtain ⟨A7, c7, e7, _⟩ := HS.out.own.reads
              obtain ⟨z7, hz7⟩ : ∃ z, (fi ++ tailI i).length = z := ⟨_, rfl⟩
              rw [hz7] at e7
              subst e7
              clear hz7
              have HBS := Aside0.mk (show w.heap.size ≤ wr.heap.size from HB.out.size)
              clear hNX htk
              go_wp2_with ((with_reducible refine gate_builtin (b := .append) (xs := #[.tmp 60, .tmp 62]) rfl ?_); at_builtin; refine append_val w.heap.size rfl (.tmp 60) (.tmp 62) 117 52 (.slice none 0 0) 24 rfl Try.underlying117 info52 rfl (by decide) u5 i ((List.range i).map u) (.slice A7 z7 c7) rfl rfl rfl HLO.out HBS.out (by omega) ?_; intro v1 w1 ho hg; have HO1 := Aside0.mk ho; have HG1 := Aside0.mk hg; clear ho hg)
              go_roundg (n - (i + 1))
              case measure => have := HK.out; omega
              case rel =>
                have hty : ∀ g cells, u5.ownBlock = some g → wr.heap[g]? = some (.cells cells 3 (0, 0)) → False := fun g cells e hc => by
                  obtain ⟨c2, h2⟩ := HLO.out.typed g e
                  exact block_ne h2 hc (by decide)
                have hmap : (List.range (i + 1)).map (upd u i (.slice A7 z7 c7)) = (List.range i).map u ++ [.slice A7 z7 c7] := by
                  rw [List.range_succ, List.map_append, List.map_cons, List.map_nil, upd_at]
                  congr 1
                  apply List.map_congr_left
                  intro j hj
                  rw [List.mem_range] at hj
                  exact upd_ne _ _ (by omega)
                exact ⟨i + 1, upd u i (.slice A7 z7 c7), upd us i (fi ++ tailI i), by first | rfl | (simp; done), ⟨hlt⟩, ⟨HNX.out.move HG1.out hty⟩, ⟨fun j hj => by
                  by_cases he : j = i
                  · subst he; rw [upd_at, HFI.out]
                  · rw [upd_ne _ _ he]; exact HUS.out j (by omega)⟩, ⟨by rw [hmap]; exact HO1.out⟩, ⟨HB.out.grown HG1.out (Nat.le_trans hbase HBS.out) (fun k e => Nat.le_trans hbase (HLO.out.base_le k e))⟩, ⟨blk_grown HA.out HG1.out (fun e => by have := HLO.out.base_le gA e.symm; have h2 := HAL.out; omega)⟩, ⟨Nat.le_refl _⟩⟩
        · have hin : i = n := by omega
          subst hin
          have hii2 : ¬ (i : Int) < (i : Int) := by omega
          clear hcA
          have HGN := Aside0.mk HGO.out
          go_wp2
          go_loopg [9] i (fun kq v9 w' => w' = wr ∧ ∃ j : Nat, v9 = .int .i64 j ∧ Aside0 (j ≤ i) ∧ Aside0 (i - j ≤ kq))
          case atStart => exact ⟨rfl, 0, rfl, ⟨Nat.zero_le _⟩, ⟨Nat.le_refl _⟩⟩
          case round =>
            obtain ⟨rfl, j, rfl, hj, HJ⟩ := hrel
            have hjj := hj.out
            by_cases hjl : j < i
            · have hcA := blk_cell HA.out j
              rw [HCS.out j hjl] at hcA
              obtain ⟨Aj, cj, hvj, hmcj⟩ := HV.out j hjl
              have hmj := HM.out j hjl
              have hrd := HGO.out.rd j hjl
              have how := HGO.out.own j hjl
              rw [if_pos hjl, if_pos hjl, HUS.out j hjl] at how
              have hfl := HFL.out j
              have hfe : fs j = fillI (xs j).length j := by rw [HFS.out]
              obtain ⟨m, hme⟩ : ∃ m, (xs j).length = m := ⟨_, rfl⟩
              rw [hme] at hfe hfl hvj hmcj hmj
              rw [hfe] at hrd how
              rw [hvj] at hcA hrd
              obtain ⟨Au, cu, hue, _, _⟩ := how.reads
              have hul : (fillI m j ++ tailI j).length = m + 30 := by rw [List.length_append, fillI_len, tailI_len]
              rw [hul] at hue
              have hlong := HLO.out
              obtain ⟨gl, cl, hcl⟩ : ∃ gl cl, u5 = .slice (some ⟨gl, 0, none⟩) i cl ∧ i ≤ cl := by
                rcases hlong.2 with ⟨_, h0⟩ | ⟨g, cap, cur, he, _, _, hn, _⟩
                · omega
                · exact ⟨g, cap, he, hn⟩
              obtain ⟨hcl, hcl2⟩ := hcl
              subst hcl
              have hcL := hlong.cells (g := gl) rfl j (.slice Au (m + 30) cu) (by rw [← hue]; simp [hjl])
              rw [add_plain] at hcL
              rw [hue] at how
              have HRD := Aside0.mk hrd
              have HRU := Aside0.mk how.rdv
              clear hrd how hlong hue hul hfe hfl hme hvj
              go_wp2
              go_loopg [11] m (fun kq v11 w' => w' = wr ∧ ∃ q : Nat, v11 = .int .i64 q ∧ Aside0 (q ≤ m) ∧ Aside0 (m - q ≤ kq))
              case atStart => exact ⟨rfl, 0, rfl, ⟨Nat.zero_le _⟩, ⟨Nat.le_refl _⟩⟩
              case round =>
                obtain ⟨rfl, q, rfl, hq, HQ⟩ := hrel
                have hqq := hq.out
                by_cases hqm : q < m
                · obtain ⟨g, rfl, hg⟩ := Rdv.get HRD.out q (by rw [fillI_len]; exact hqm)
                  rw [fillI_get m j q hqm] at hg
                  obtain ⟨g2, rfl, hg2⟩ := Rdv.get HRU.out q (by rw [List.length_append, fillI_len]; omega)
                  rw [getD_left _ _ _ (by rw [fillI_len]; exact hqm), fillI_get m j q hqm] at hg2
                  go_wp2
                  go_roundg (m - (q + 1))
                  case measure => have := HQ.out; omega
                  case rel => exact ⟨rfl, q + 1, by first | rfl | (simp; done), ⟨hqm⟩, ⟨Nat.le_refl _⟩⟩
                · have hqe : q = m := by omega
                  subst hqe
                  have hqn : ¬ (q : Int) < (q : Int) := by omega
                  go_wp2
                  go_loopg [12] 30 (fun kq v12 w' => w' = wr ∧ ∃ p : Nat, v12 = .int .i64 p ∧ Aside0 (p ≤ 30) ∧ Aside0 (30 - p ≤ kq))
                  case atStart => exact ⟨rfl, 0, rfl, ⟨Nat.zero_le _⟩, ⟨Nat.le_refl _⟩⟩
                  case round =>
                    obtain ⟨rfl, p, rfl, hp, HP⟩ := hrel
                    have hpp := hp.out
                    by_cases hpm : p < 30
                    · obtain ⟨g2, rfl, hg2⟩ := Rdv.get HRU.out (q + p) (by rw [List.length_append, fillI_len, tailI_len]; omega)
                      rw [getD_right _ _ _ (by rw [fillI_len]; omega), fillI_len, Nat.add_sub_cancel_left, tailI_get j p hpm] at hg2
                      go_wp2
                      go_roundg (30 - (p + 1))
                      case measure => have := HP.out; omega
                      case rel => exact ⟨rfl, p + 1, by first | rfl | (simp; done), ⟨hpm⟩, ⟨Nat.le_refl _⟩⟩
                    · have hpe : p = 30 := by omega
                      subst hpe
                      go_wp2
                      go_roundg (i - (j + 1))
                      case measure => have := HJ.out; omega
                      case rel => exact ⟨rfl, j + 1, by first | rfl | (simp; done), ⟨hjl⟩, ⟨Nat.le_refl _⟩⟩
            · have hje : ¬ (j : Int) < (i : Int) := by omega
              go_wp2
              go_ret
              exact ⟨rfl, HB.out⟩
end Go.Proofs.Ytimlgpfcgklddaa.P
namespace Go.Proofs.Ytimlgpfcgklddaa
open Go.RowKit Go.Proofs.YtimlgpfcgklddaaW.PrintWords
end Go.Proofs.Ytimlgpfcgklddaa
namespace Go.Proofs.Ytimlgpfcgklddaa.P
open Go.RowKit Go.Shelf Go.Proofs.YtimlgpfcgklddaaW.PrintWords Go.Proofs.YtimlgpfcgklddaaW.PrintLast Go.Proofs.YtimlgpfcgklddaaW.PrintMore
set_option linter.unusedVariables false
set_option linter.unusedSimpArgs false
theorem intsGo (x0 x1 : List Int) (h : x0.length = x1.length) (hm : x0.length ≤ 9223372036854775807) : ∀ (k j : Nat), x0.length < j + k → j ≤ x0.length → lecternkit_Ints.l0 k x0 x1 j = some (decide (x0.drop j = x1.drop j))
  | 0, j, h1, h2 => by omega
  | k + 1, j, h1, h2 => by
    rw [lecternkit_Ints.l0]
    by_cases hj : j < x0.length
    · rw [if_pos (by omega), if_pos (by omega), if_pos (by omega), drop_rd x0 j hj, drop_rd x1 j (by omega)]
      by_cases he : rd x0 j = rd x1 j
      · rw [if_pos he, wrap64_small (by omega) (by omega), he]
        have := intsGo x0 x1 h hm k (j + 1) (by omega) (by omega)
        rw [show ((j : Int) + 1) = ((j + 1 : Nat) : Int) from rfl, this]
        simp
      · rw [if_neg he]
        simp [he]
    · rw [if_neg (by omega), List.drop_eq_nil_of_le (by omega), List.drop_eq_nil_of_le (by omega)]
      simp
theorem Ints_calls (A0 A1 : Option Addr) (c0 c1 : Nat) (x0 x1 : List Int) (w : World) (h0 : (Kd.int .i64).C w A0 x0.length x0) (hc0 : x0.length ≤ c0) (h1 : (Kd.int .i64).C w A1 x1.length x1) (hc1 : x1.length ≤ c1) :
    Calls Try.prog 27 #[.slice A0 x0.length c0, .slice A1 x1.length c1] w fun e w' => e = .returned (.bool (decide (x0 = x1))) ∧ Drawn0 w w' := by
  refine lecternkit_Ints.calls (x0.length + 1) A0 c0 x0 A1 c1 x1 _ w h0 hc0 h1 hc1 ?_
  unfold lecternkit_Ints.f
  by_cases h : x0.length = x1.length
  · rw [if_pos (by omega)]
    exact intsGo x0 x1 h (Kd.C_max h0) (x0.length + 1) 0 (by omega) (by omega)
  · rw [if_neg (by omega)]
    have : ¬ x0 = x1 := fun e => h (by rw [e])
    simp [this]
end Go.Proofs.Ytimlgpfcgklddaa.P
namespace Go.Proofs.Ytimlgpfcgklddaa
open Go.RowKit Go.Proofs.YtimlgpfcgklddaaW.PrintWords
set_option linter.unusedVariables false
/-- What a row of told posts holds, post by post. -/
theorem PxA.parts {N : Nat} {w : World} {base : Nat} {A : Option Addr} {c : Nat} {L : List P.S58} (h : PxA N w base (.slice A L.length c) L) : ∃ pv : Nat → Value, Ap .i64 3 w base L.length pv (fun j => (L.getD j P.z58).f1) ∧ ∀ j, j < L.length → ∃ ad, A = some ad ∧ w.cell? (ad.add (j * 2)) = some (.int .i64 (L.getD j P.z58).f0) ∧ w.cell? ⟨(ad.add (j * 2)).block, (ad.add (j * 2)).off + 1, none⟩ = some (pv j) := by
  obtain ⟨cs, h1, h2, h3⟩ := h
  have hg : ∀ j (hj : j < L.length), L.getD j P.z58 = L[j] := fun j hj => by rw [List.getD_eq_getElem?_getD, List.getElem?_eq_getElem hj]; rfl
  have hpv : ∀ j (hj : j < L.length), cs[j * 2 + 1]? = some (cs.getD (j * 2 + 1) undef) := fun j hj => by
    obtain ⟨v1, e1, _⟩ := pxR_pos h2 j hj
    rw [List.getD_eq_getElem?_getD, e1]
    rfl
  refine ⟨fun j => cs.getD (j * 2 + 1) undef, ⟨fun j hj => ?_, fun i j hi hj hij => h3.ap i j hi hj hij _ _ (hpv i hi) (hpv j hj)⟩, fun j hj => ?_⟩
  · obtain ⟨v1, e1, _, hx⟩ := pxR_pos h2 j hj
    rw [hg j hj, List.getD_eq_getElem?_getD, e1]
    exact hx
  · obtain ⟨v1, e1, e0, hx⟩ := pxR_pos h2 j hj
    rcases h1.2 with ⟨he, hn⟩ | ⟨g, cap, cur, he, hb, hgg, hn, hc, hs, ht⟩
    · omega
    · injection he with he1 _ _
      subst he1
      refine ⟨⟨g, 0, none⟩, rfl, ?_, ?_⟩
      · rw [hg j hj]
        exact h1.cells (g := g) rfl (j * 2) _ e0
      · rw [← add_field _ _ 1 (by omega)]
        exact h1.cells (g := g) rfl (j * 2 + 1) _ (hpv j hj)
end Go.Proofs.Ytimlgpfcgklddaa
namespace Go.Proofs.Ytimlgpfcgklddaa.P
open Go.RowKit Go.Shelf Go.Proofs.YtimlgpfcgklddaaW.PrintWords Go.Proofs.YtimlgpfcgklddaaW.PrintLast Go.Proofs.YtimlgpfcgklddaaW.PrintMore
set_option linter.unusedVariables false
set_option linter.unusedSimpArgs false
set_option maxRecDepth 100000 in
theorem ApartNil_calls (A : Option Addr) (c : Nat) (w : World) : Calls Try.prog 70 #[.slice A 0 c] w fun e w' => e = .returned (.bool true) ∧ w' = w := by
  go_enter Try.func70, Try.ntmps70
  go_wp2
  go_loopg [3] 0 (fun kq v3 w' => v3 = .int .i64 0 ∧ w' = w)
  case atStart => exact ⟨rfl, rfl⟩
  case round =>
    obtain ⟨rfl, rfl⟩ := hrel
    go_wp2
    go_loopg [6] 0 (fun kq v6 w' => v6 = .int .i64 0 ∧ w' = wr)
    case atStart => exact ⟨rfl, rfl⟩
    case round =>
      obtain ⟨rfl, rfl⟩ := hrel
      go_wp2
      go_loopg [9] 0 (fun kq v9 w' => v9 = .int .i64 0 ∧ w' = wr)
      case atStart => exact ⟨rfl, rfl⟩
      case round =>
        obtain ⟨rfl, rfl⟩ := hrel
        go_wp2
        go_ret
        exact ⟨rfl, rfl⟩
set_option maxRecDepth 100000 in
set_option maxHeartbeats 4000000 in
theorem sameP_calls (A A2 : Option Addr) (L : List S58) (c c2 base N : Nat) (w : World) (h : PxA N w base (.slice A L.length c) L) (hb : base ≤ w.heap.size) (h2 : Kd.C k86 w A2 L.length (L.map to86)) (hc2 : L.length ≤ c2) (hl : L.length ≤ 16384) (hp : ∀ p ∈ L, p.f1.length ≤ 1048576) :
    Calls Try.prog 36 #[.slice A L.length c, .slice A2 L.length c2] w fun e w' => e = .returned (.bool true) ∧ Below base w w' := by
  obtain ⟨pv, hap, hcell⟩ := h.parts
  have HAP := Aside0.mk hap
  have HCL := Aside0.mk hcell
  have H2 := Aside0.mk h2
  have HP := Aside0.mk hp
  have HPL : Aside0 (∀ j, j < L.length → (L.getD j z58).f1.length ≤ 1048576) := ⟨fun j hj => hp _ (by rw [List.getD_eq_getElem?_getD, List.getElem?_eq_getElem hj]; exact List.getElem_mem hj)⟩
  have hcm : L.length ≤ c := by
    obtain ⟨A', c', e, hc, _⟩ := h.px.reads
    injection e with _ _ e3
    omega
  clear h h2 hp hap hcell
  go_enter Try.func36, Try.ntmps36
  go_wp2
  go_loopg [5, 6] L.length (fun kq v5 v6 w' => ∃ i : Nat, v6 = .int .i64 (i : Int) ∧ Aside0 (i + kq = L.length) ∧ Aside0 (Lax w' w.heap.size 52 1 v5 i ((List.range i).map pv)) ∧ Aside0 (Below w.heap.size w w'))
  case atStart => exact ⟨0, rfl, ⟨by omega⟩, ⟨Lax.nil _ _ _ _⟩, ⟨Below.refl _ _⟩⟩
  case round =>
    obtain ⟨i, rfl, hi, HLO, HB⟩ := hrel
    by_cases hil : i < L.length
    · obtain ⟨ad, rfl, hx0, hx1⟩ := HCL.out i hil
      obtain ⟨ad2, A1, c1, rfl, hy0, hy1, hl1, hC1⟩ := at_T86 H2.out (i : Int) (by omega) (by omega)
      rw [Int.toNat_natCast] at hy0 hy1
      have he : rd_T86 (L.map to86) (i : Int) = to86 (L.getD i z58) := by
        unfold rd_T86
        rw [Int.toNat_natCast, List.getD_eq_getElem?_getD, List.getD_eq_getElem?_getD, List.getElem?_map, List.getElem?_eq_getElem hil]
        rfl
      rw [he] at hy0 hy1 hl1 hC1
      obtain ⟨A3, c3, e3, hc3, hC3⟩ := (HAP.out.own i hil).reads
      have hpl := HPL.out i hil
      obtain ⟨p, hpe⟩ : ∃ p, L.getD i z58 = p := ⟨_, rfl⟩
      rw [hpe] at hx0 hy0 hy1 hl1 hC1 hpl
      rw [hpe] at e3 hc3 hC3
      have EPV := Aside0.mk e3
      rw [e3] at hx1
      have hy0' : w.cell? (ad2.add (i * 2)) = some (.int .i64 p.f0) := hy0
      have hy1' : w.cell? ⟨(ad2.add (i * 2)).block, (ad2.add (i * 2)).off + 1, none⟩ = some (.slice A1 p.f1.length c1) := hy1
      have HKI : Aside0 (∀ m, Calls Try.prog 27 #[.slice A3 p.f1.length c3, .slice A1 p.f1.length c1] (wr.drewN m) fun e w' => e = .returned (.bool true) ∧ ∃ n, w' = wr.drewN n) := ⟨fun m => by
        have hbm : Below wr.heap.size wr (wr.drewN m) := pw_below_drewN (Below.refl _ _) m
        have := Ints_calls A3 A1 c3 c1 p.f1 p.f1 (wr.drewN m) (Kd.C_below (Kd.C_below hC3 HB.out) hbm) hc3 (Kd.C_below (Kd.C_below hC1 HB.out) hbm) hl1
        exact this.mono fun e w' h => ⟨by rw [h.1, decide_eq_true rfl], by obtain ⟨n, rfl⟩ := h.2.out; exact (Drawn0.step ⟨⟨m, rfl⟩⟩ n).out⟩⟩
      have HX1 := Aside0.mk hx1
      replace hx0 := pw_cell_below HB.out hx0
      replace hx1 := pw_cell_below HB.out hx1
      replace hy0' := pw_cell_below HB.out hy0'
      replace hy1' := pw_cell_below HB.out hy1'
      clear he hpe hC1 hC3 hy0 hy1 e3
      go_wp2
      go_big_quiet (first | (go_at_call 27; ((with_reducible refine (HKI.out _).mono ?_)); rintro e w6 ⟨rfl, kd, rfl⟩; exact ⟨rfl, _, rfl⟩))
      have HLO2 := Aside0.mk (HLO.out.below (pw_below_drewN (Below.refl _ _) nq))
      have HB2 := Aside0.mk (HB.out.trans ((pw_below_drewN (Below.refl wr.heap.size wr) nq).mono HB.out.size))
      go_wp2_with ((with_reducible refine gate_builtin (b := .append) (xs := #[.tmp 43, .tmp 49]) rfl ?_); at_builtin; refine append_val w.heap.size rfl (.tmp 43) (.tmp 49) 117 52 (.slice none 0 0) 24 rfl Try.underlying117 info52 rfl (by decide) u5 i ((List.range i).map pv) (.slice A3 p.f1.length c3) rfl rfl rfl HLO2.out HB2.out.size (by omega) ?_; intro v1 w1 ho hg; have HO1 := Aside0.mk ho; have HB3 := Aside0.mk (HB2.out.grown hg HB2.out.size (HLO2.out.base_le)); clear ho hg)
      go_roundg (L.length - (i + 1))
      case measure => have := hi.out; omega
      case rel => exact ⟨i + 1, by first | rfl | (simp; done) | (simp; unfold wrap64; omega), ⟨by have := hi.out; omega⟩, ⟨by rw [List.range_succ, List.map_append, List.map_cons, List.map_nil, EPV.out]; exact HO1.out⟩, HB3⟩
    · have hie : i = L.length := by have := hi.out; omega
      rw [hie] at HLO
      have HIE := Aside0.mk hie
      clear hie
      obtain ⟨A5, c5, rfl, hc5⟩ := HLO.out.slice
      have HFin : Aside0 (Calls Try.prog 70 #[.slice A5 L.length c5] wr fun e w' => e = .returned (.bool true) ∧ Below base w w') := ⟨by
        rcases Nat.eq_zero_or_pos L.length with h0 | h0
        · rw [h0]
          refine (ApartNil_calls A5 c5 wr).mono ?_
          rintro e w' ⟨rfl, rfl⟩
          exact ⟨rfl, HB.out.mono hb⟩
        · rcases HLO.out.2 with ⟨_, hn0⟩ | ⟨g, cap, cur, he, hbg, hg, hn, hcap, hs, ht⟩
          · omega
          · injection he with he1 _ he3
            subst he1; subst he3
            refine (ApartInts_calls g L.length c5 base cur pv (fun j => (L.getD j z58).f1) wr hg (fun j hj => ?_) ⟨fun j hj => Lx.below (HAP.out.own j hj) HB.out, HAP.out.apart⟩ (Nat.le_trans hb HB.out.size) (by omega) hc5 (fun j hj => by have := HPL.out j hj; omega)).mono ?_
            · have h1 := congrArg (fun l => l[j]?) ht
              simp only [List.getElem?_take, List.getElem?_map, Array.getElem?_toList] at h1
              rw [if_pos (by omega), List.getElem?_range hj] at h1
              exact h1
            · rintro e w' ⟨rfl, hbb⟩
              exact ⟨rfl, (HB.out.mono hb).trans hbb⟩⟩
      have hnl : ¬ (i : Int) < (L.length : Int) := by have := hi.out; omega
      clear HLO hc5
      go_wp2_with (go_at_call 70; ((with_reducible refine HFin.out.mono ?_)); rintro e w6 ⟨rfl, hbb⟩; have HBB := Aside0.mk hbb; clear hbb)
      go_ret
      exact ⟨rfl, HBB.out⟩
end Go.Proofs.Ytimlgpfcgklddaa.P
namespace Go.Proofs.Ytimlgpfcgklddaa
open Go.RowKit
def givenL : List P.S58 := [⟨2, [0, 5]⟩, ⟨4, [1]⟩]
def formL : List Int := [2, 10, 5, 2, 1, 1, 0, 1, 1, 0, 3, 104, 0]
theorem given_form : formOf givenL = formL := by kernel_rfl
theorem given_right : rightB (-1) 0 givenL = true := by kernel_rfl
def blL : List Blk := [⟨[2, 1, 1, 0, 1, 1, 0, 3, 104, 0], -1, 4, 2⟩]
theorem form_open : openF formL = some (blL, 2) := by kernel_rfl
theorem bl_ok : ∀ p ∈ blL, BlkOk p := by
  intro p hp
  rw [blL, List.mem_singleton] at hp
  subst hp
  exact ⟨by decide, by decide, by decide, by decide, by decide, by kernel_rfl⟩
def st0 : ISt := ⟨[], -1, 0⟩
def st1 : ISt := ⟨givenL, 0, 1⟩
def st2 : ISt := ⟨givenL, 1, 1⟩
def st3 : ISt := ⟨[], 0, 1073741824⟩
theorem go1 : nextF blL st0 = (true, st1) := by kernel_rfl
theorem go2 : advF blL st1 3 = (true, st2) := by kernel_rfl
theorem go3 : advF blL st2 4 = (true, st2) := by kernel_rfl
theorem go4 : nextF blL st2 = (false, st3) := by kernel_rfl
theorem doc1 : docF st1 = 2 := by kernel_rfl
theorem freq1 : freqF st1 = 2 := by kernel_rfl
theorem doc2 : docF st2 = 4 := by kernel_rfl
theorem doc3 : docF st3 = 16384 := by kernel_rfl
end Go.Proofs.Ytimlgpfcgklddaa
