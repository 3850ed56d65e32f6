/-
Texts of this seat, laid together: D3, D4, M12.
-/
import Derived.Test.YtimlgpfcgklddaaXC8
import Derived.Test.YtimlgpfcgklddaaXR5
import Derived.Test.YtimlgpfcgklddaaXR6
/-
block.posts: the posts of a block.
-/
namespace Go.Proofs.Ytimlgpfcgklddaa.P
open Go.RowKit Go.Shelf Go.Proofs.YtimlgpfcgklddaaW.PrintWords Go.Proofs.YtimlgpfcgklddaaW.PrintLast Go.Proofs.YtimlgpfcgklddaaW.PrintMore
set_option linter.unusedVariables false
set_option linter.unusedSimpArgs false
/-- The blocks that block.posts holds: its parameter, the bytes that are left. -/
structure Hold (w W : World) (A : Option Addr) (m c : Nat) (ahead last : Int) (n : Nat) (A' : Option Addr) (m' c' : Nat) : Prop where
  st : W.heap[w.heap.size]? = some (.cells #[.slice A m c, .int .i64 ahead, .int .i64 last, .int .i64 n] 96 (0, 0))
  bx : W.heap[w.heap.size + 1]? = some (.cells #[.slice A' m' c'] 25 (0, 0))
  below : Below w.heap.size w W
theorem Hold.took {w W W' : World} {A : Option Addr} {m c : Nat} {ahead last : Int} {n : Nat} {A' : Option Addr} {m' c' : Nat} (h : Hold w W A m c ahead last n A' m' c') (hg : W.grownBy W' (some (w.heap.size + 1))) {A'' : Option Addr} {m'' c'' : Nat} (hb : W'.heap[w.heap.size + 1]? = some (.cells #[.slice A'' m'' c''] 25 (0, 0))) : Hold w W' A m c ahead last n A'' m'' c'' :=
  ⟨blk_grown h.st hg (by intro e; injection e; omega), hb, h.below.grown hg h.below.size (fun k e => by injection e; omega)⟩
theorem Hold.new (w : World) (A : Option Addr) (m c : Nat) (ahead last : Int) (n : Nat) : Hold w ((w.alloc (Obj.cells #[Value.slice A m c, Value.int IntKind.i64 ahead, Value.int IntKind.i64 last, Value.int IntKind.i64 ↑n] 96)).alloc (Obj.cells #[Value.slice A m c] 25)) A m c ahead last n A m c :=
  ⟨blk_alloc (blk_new w _) _, by
    have := blk_new (w.alloc (Obj.cells #[Value.slice A m c, Value.int IntKind.i64 ahead, Value.int IntKind.i64 last, Value.int IntKind.i64 ↑n] 96)) (Obj.cells #[Value.slice A m c] 25)
    simpa using this, below_alloc (below_alloc (Below.refl _ _) _) _⟩
theorem Lx.took {W W' : World} {base base' B : Nat} {cells : Array Value} {v : Value} {l : List Int} (h : Lx .i64 2 W base v l) (hx : W.heap[B]? = some (.cells cells 25 (0, 0))) (hg : W.grownBy W' (some B)) (hb : base' ≤ base) : Lx .i64 2 W' base' v l :=
  Lax.lower (Lax.grown h hg fun j hj ej => by
    obtain ⟨cells', hc⟩ := Lax.typed h j hj
    injection ej with ej
    subst ej
    rw [hx] at hc
    injection hc with hc
    injection hc with _ hc
    exact absurd hc (by decide)) hb
theorem drop_rd (l : List Int) (k : Nat) (h : k < l.length) : l.drop k = rd l k :: l.drop (k + 1) := by
  rw [List.drop_eq_getElem_cons h]
  unfold rd
  rw [Int.toNat_natCast, List.getD_eq_getElem?_getD, List.getElem?_eq_getElem h]
  rfl
theorem sumF_nonneg : ∀ (l : List Int), (∀ f ∈ l, 0 ≤ f) → 0 ≤ sumF l
  | [], _ => by simp [sumF]
  | x :: r, h => by
    have h1 := h x (List.mem_cons_self ..)
    have h2 := sumF_nonneg r fun f hf => h f (List.mem_cons_of_mem _ hf)
    simp only [sumF, List.map_cons, List.sum_cons] at h2 ⊢
    omega
set_option maxRecDepth 100000 in
set_option maxHeartbeats 2000000 in
theorem posts_calls (A : Option Addr) (bs : List Int) (c n : Nat) (ahead last : Int) (w : World) (h : (Kd.int .u8).C w A bs.length bs) (hc : bs.length ≤ c) (hl : bs.length ≤ 140737488355328) (hr : ∀ x ∈ bs, 0 ≤ x ∧ x < 256) (hn : n ≤ 1048576) (hn1 : 1 ≤ n) (ha : -1 ≤ ahead ∧ ahead ≤ 4398046511104) :
    Calls Try.prog 53 #[.agg #[.slice A bs.length c, .int .i64 ahead, .int .i64 last, .int .i64 n]] w fun e w' => ∃ v, e = .returned (.tuple #[v, .bool (postsF bs ahead last n).2]) ∧ Px w' w.heap.size v (postsF bs ahead last n).1 ∧ Below w.heap.size w w' := by
  obtain ⟨R, hR⟩ : ∃ R, postsF bs ahead last n = R := ⟨_, rfl⟩
  rw [hR]
  obtain ⟨ds, hds⟩ : ∃ ds, rowOf bs n = ds := ⟨_, rfl⟩
  obtain ⟨b1, hb1⟩ : ∃ b1, restOf bs n = b1 := ⟨_, rfl⟩
  obtain ⟨fs, hfs⟩ : ∃ fs, rowOf b1 n = fs := ⟨_, rfl⟩
  obtain ⟨b2, hb2⟩ : ∃ b2, restOf b1 n = b2 := ⟨_, rfl⟩
  have hok1 := restOf_ok n hl hr
  rw [hb1] at hok1
  have hok2 := restOf_ok n hok1.1 hok1.2
  rw [hb2] at hok2
  unfold postsF at hR
  rw [hb1, hb2, hds, hfs] at hR
  have T1 : Aside0 (∀ W, W.heap[w.heap.size + 1]? = some (.cells #[.slice A bs.length c] 25 (0, 0)) → Below w.heap.size w W → Calls Try.prog 85 #[.int .i64 n, .pointer (some ⟨w.heap.size + 1, 0, none⟩)] W fun e w' => ∃ v A' c', e = .returned v ∧ Lx .i64 2 w' W.heap.size v ds ∧ w'.heap[w.heap.size + 1]? = some (.cells #[.slice A' b1.length c'] 25 (0, 0)) ∧ b1.length ≤ c' ∧ (Kd.int .u8).C w A' b1.length b1 ∧ W.grownBy w' (some (w.heap.size + 1))) := ⟨fun W hb hB => by
    have := takeRow_calls w (w.heap.size + 1) A bs c n W hb h hB hc hl hr hn
    rw [hds, hb1] at this
    exact this⟩
  have T2 : Aside0 (∀ W A1 c1, W.heap[w.heap.size + 1]? = some (.cells #[.slice A1 b1.length c1] 25 (0, 0)) → (Kd.int .u8).C w A1 b1.length b1 → b1.length ≤ c1 → Below w.heap.size w W → Calls Try.prog 85 #[.int .i64 n, .pointer (some ⟨w.heap.size + 1, 0, none⟩)] W fun e w' => ∃ v A' c', e = .returned v ∧ Lx .i64 2 w' W.heap.size v fs ∧ w'.heap[w.heap.size + 1]? = some (.cells #[.slice A' b2.length c'] 25 (0, 0)) ∧ b2.length ≤ c' ∧ (Kd.int .u8).C w A' b2.length b2 ∧ W.grownBy w' (some (w.heap.size + 1))) := ⟨fun W A1 c1 hb hC hc hB => by
    have := takeRow_calls w (w.heap.size + 1) A1 b1 c1 n W hb hC hB hc hok1.1 hok1.2 hn
    rw [hfs, hb2] at this
    exact this⟩
  have T3 : Aside0 (∀ W A2 c2 (m : Nat), W.heap[w.heap.size + 1]? = some (.cells #[.slice A2 b2.length c2] 25 (0, 0)) → (Kd.int .u8).C w A2 b2.length b2 → b2.length ≤ c2 → Below w.heap.size w W → m ≤ 1048576 → Calls Try.prog 85 #[.int .i64 m, .pointer (some ⟨w.heap.size + 1, 0, none⟩)] W fun e w' => ∃ v A' c', e = .returned v ∧ Lx .i64 2 w' W.heap.size v (rowOf b2 m) ∧ w'.heap[w.heap.size + 1]? = some (.cells #[.slice A' (restOf b2 m).length c'] 25 (0, 0)) ∧ (restOf b2 m).length ≤ c' ∧ (Kd.int .u8).C w A' (restOf b2 m).length (restOf b2 m) ∧ W.grownBy w' (some (w.heap.size + 1))) := ⟨fun W A2 c2 m hb hC hc hB hm => takeRow_calls w (w.heap.size + 1) A2 b2 c2 m W hb hC hB hc hok2.1 hok2.2 hm⟩
  have HRR := Aside0.mk hR
  have hmf : ∀ (fn : Fn) (first cap : Array Value) (w : World), (Instr.makeFunc fn first cap).run Try.prog w = .ok (.func fn first cap) w := fun _ _ _ _ => rfl
  clear h hr hds hb1 hfs hb2 hR hok1 hok2
  go_enter Try.func53, Try.ntmps53
  by_cases hd : ds.length = n
  · by_cases hf : fs.length = n
    · rw [if_neg (by simp [hd, hf])] at HRR
      have hfn : (fs.length : Int) = n := by omega
      have hdn : (ds.length : Int) = n := by omega
      have HD := Aside0.mk hd
      have HF := Aside0.mk hf
      clear hd hf
      go_wp2_with (first | (go_at_call 85; ((with_reducible refine (T2.out _ A1 c1 HX1.out.bx HC1.out hc1 HX1.out.below).mono ?_)); rintro e w2 ⟨v2, A2, c2, rfl, ho2, hb2, hc2, hC2, hg2⟩; have HX2 := Aside0.mk (HX1.out.took hg2 hb2); have HO2 := Aside0.mk (Lax.lower ho2 HX1.out.below.size); have HO1b := Aside0.mk (Lx.took HO1.out HX1.out.bx hg2 (Nat.le_refl _)); have HC2 := Aside0.mk hC2; obtain ⟨Af, cf, rfl, hcf, hCf⟩ := ho2.reads; have HCf := Aside0.mk hCf; have hs0 := blk_cell HX2.out.st 0; have hs1 := blk_cell HX2.out.st 1; have hs2 := blk_cell HX2.out.st 2; have hs3 := blk_cell HX2.out.st 3; have hs4 := blk_cell HX2.out.bx 0; clear ho2 hb2 hC2 hg2 hCf hn3) | (go_at_call 85; ((with_reducible refine (T1.out _ (Hold.new _ _ _ _ _ _ _).bx (Hold.new _ _ _ _ _ _ _).below).mono ?_)); rintro e w1 ⟨v1, A1, c1, rfl, ho1, hb1, hc1, hC1, hg1⟩; have HX1 := Aside0.mk ((Hold.new w A bs.length c ahead last n).took hg1 hb1); have HO1 := Aside0.mk (Lax.lower ho1 (show w.heap.size ≤ _ by simp; omega)); have HC1 := Aside0.mk hC1; obtain ⟨Ad, cd, rfl, hcd, hCd⟩ := ho1.reads; have HCd := Aside0.mk hCd; have hn3 := blk_cell HX1.out.st 3; clear ho1 hb1 hC1 hg1 hCd))
      go_loopg [8, 45] fs.length (fun kq v8 v45 w' => w' = w2 ∧ ∃ (k : Nat) (a : Int), v45 = .int .i64 k ∧ Aside0 (k ≤ fs.length) ∧ v8 = .int .i64 a ∧ (0 ≤ a ∧ a ≤ 1048576) ∧ Aside0 (allGo a (fs.drop k) = allGo 0 fs) ∧ Aside0 (fs.length - k ≤ kq))
      case atStart => exact ⟨rfl, 0, 0, rfl, ⟨Nat.zero_le _⟩, rfl, by omega, ⟨rfl⟩, ⟨Nat.le_refl _⟩⟩
      case round =>
        obtain ⟨rfl, k, a, rfl, hk, rfl, har, HA, HK⟩ := hrel
        by_cases hlt : k < fs.length
        · obtain ⟨ad, rfl, hx⟩ := Kd.at_int HCf.out (k : Int) (by omega) (by omega)
          rw [Int.toNat_natCast] at hx
          have hdr : fs.drop k = rd fs k :: fs.drop (k + 1) := by
            rw [List.drop_eq_getElem_cons hlt]
            unfold rd
            rw [Int.toNat_natCast, List.getD_eq_getElem?_getD, List.getElem?_eq_getElem hlt]
            rfl
          obtain ⟨f, hfe⟩ : ∃ f, rd fs k = f := ⟨_, rfl⟩
          rw [hfe] at hx hdr
          rw [hdr, allGo] at HA
          clear hdr hfe
          by_cases hbad : f < 0 ∨ 1048576 - a ≤ f
          · rw [if_pos hbad] at HA
            have HRN : Aside0 (R = ([], false)) := ⟨by rw [← HRR.out, ← HA.out]⟩
            by_cases hf0 : f < 0
            · go_wp2
              go_ret2
              have e := HRN.out
              subst e
              exact ⟨_, rfl, Px.nil _ _, HX2.out.below⟩
            · have hf1 : 1048576 - a ≤ f := by omega
              go_wp2
              go_ret2
              have e := HRN.out
              subst e
              exact ⟨_, rfl, Px.nil _ _, HX2.out.below⟩
          · rw [if_neg hbad] at HA
            obtain ⟨hf0, hf1⟩ : 0 ≤ f ∧ f < 1048576 - a := by omega
            have hfa : ¬ f ≥ 1048576 - a := by omega
            have hfz : ¬ f < 0 := by omega
            go_wp2
            go_roundg (fs.length - (k + 1))
            case measure => have := HK.out; omega
            case rel => exact ⟨rfl, k + 1, a + (f + 1), by first | rfl | (simp; done), ⟨by omega⟩, by first | rfl | (simp; done), by omega, HA, ⟨Nat.le_refl _⟩⟩
        · have hke : fs.drop k = [] := List.drop_eq_nil_of_le (by omega)
          rw [hke, allGo] at HA
          rw [← HA.out] at HRR
          have HSum := Aside0.mk (allGo_sum fs 0 a HA.out.symm (by omega) (by omega))
          have hke2 : k = fs.length := by have := hk.out; omega
          obtain ⟨m, rfl⟩ := Int.eq_ofNat_of_zero_le har.1
          dsimp only at HRR
          rw [Int.toNat_natCast] at HRR
          have hm : m ≤ 1048576 := by omega
          have HT3 := Aside0.mk (T3.out wr A2 c2 m HX2.out.bx HC2.out hc2 HX2.out.below hm)
          obtain ⟨pl, hpl⟩ : ∃ pl, rowOf b2 m = pl := ⟨_, rfl⟩
          obtain ⟨b3, hb3⟩ : ∃ b3, restOf b2 m = b3 := ⟨_, rfl⟩
          rw [hpl, hb3] at HT3
          rw [hpl, hb3] at HRR
          clear hpl hb3 HA hke T1 T2 T3 HK hk
          have hkl : ¬ (k : Int) < (fs.length : Int) := by omega
          by_cases hp : pl.length = m
          · by_cases h3 : b3.length = 0
            · have h3e : b3 = [] := List.eq_nil_of_length_eq_zero h3
              subst h3e
              rw [if_neg (by simp [hp])] at HRR
              have hpi : (pl.length : Int) = m := by omega
              go_wp2_with (go_at_call 85; ((with_reducible refine HT3.out.mono ?_)); rintro e w3 ⟨v3, A3, c3, rfl, ho3, hb3, hc3, hC3, hg3⟩; have HX3 := Aside0.mk (HX2.out.took hg3 hb3); have HO3 := Aside0.mk (Lax.lower ho3 HX2.out.below.size); have HO13 := Aside0.mk (Lx.took HO1b.out HX2.out.bx hg3 (Nat.le_refl _)); have HO23 := Aside0.mk (Lx.took HO2.out HX2.out.bx hg3 (Nat.le_refl _)); obtain ⟨Ap, cp, rfl, hcp, hCp⟩ := ho3.reads; have HCp := Aside0.mk hCp; clear hs0 hs1 hs2 hs3 hs4; have hs0 := blk_cell HX3.out.st 0; have hs1 := blk_cell HX3.out.st 1; have hs2 := blk_cell HX3.out.st 2; have hs3 := blk_cell HX3.out.st 3; have hs4 := blk_cell HX3.out.bx 0; clear ho3 hb3 hC3 hg3 hCp)
              obtain ⟨PG, hPG⟩ : ∃ PG, pGo ds fs pl ahead [] = PG := ⟨_, rfl⟩
              rw [hPG] at HRR
              have HPG0 := Aside0.mk hPG
              have HSum2 : Aside0 ((pl.length : Int) = sumF fs) := ⟨by have := HSum.out.1; omega⟩
              have HFR := Aside0.mk HSum.out.2.2
              have HW3 := Aside0.mk (show w.heap.size ≤ w3.heap.size from HX3.out.below.size)
              have HCd3 := Aside0.mk (Lx.reads' HO13.out).2.2
              have HCf3 := Aside0.mk (Lx.reads' HO23.out).2.2
              have HPM := Aside0.mk hp
              clear HSum hPG hp hs4 HC1 HC2 HX2 HO1b HO2 HCf HCd HO1 HX1 HT3
              go_loopg [11, 12, 13, 78] ds.length (fun kq v11 v12 v13 v78 w' => ∃ (k : Nat) (Ap : Option Addr) (ps : List Int) (cp : Nat) (out : List S58) (la : Int), v78 = .int .i64 k ∧ Aside0 (k ≤ ds.length) ∧ v11 = .slice Ap ps.length cp ∧ v13 = .int .i64 la ∧ ps.length ≤ cp ∧ Aside0 ((Kd.int .i64).C w3 Ap ps.length ps) ∧ Aside0 (Px w' w3.heap.size v12 out) ∧ Aside0 (out.length = k) ∧ (-1 ≤ la ∧ la ≤ 4398046511104 + k * 16384) ∧ Aside0 (pGo (ds.drop k) (fs.drop k) ps la out = PG) ∧ Aside0 ((ps.length : Int) = sumF (fs.drop k)) ∧ Aside0 (Below w3.heap.size w3 w') ∧ Aside0 (ds.length - k ≤ kq))
              case atStart => exact ⟨0, _, pl, _, [], _, rfl, ⟨Nat.zero_le _⟩, by rw [HPM.out], rfl, hcp, HCp, ⟨Px.nil _ _⟩, ⟨rfl⟩, by omega, HPG0, HSum2, ⟨Below.refl _ _⟩, ⟨Nat.le_refl _⟩⟩
              case round =>
                clear HCp hcp HPG0 HSum2
                obtain ⟨k2, Ap, ps, cp, out, la, rfl, hk2, rfl, rfl, hcp, HCp, HPX, HOL, hla, HPG, HSum, HB, HK⟩ := hrel
                have hst := blk_cell (blk_below HX3.out.st HB.out) 2
                by_cases hlt : k2 < ds.length
                · have hlf : k2 < fs.length := by have := HD.out; have := HF.out; omega
                  obtain ⟨ad, rfl, hxd⟩ := Kd.at_int HCd3.out (k2 : Int) (by omega) (by omega)
                  rw [Int.toNat_natCast] at hxd
                  replace hxd := pw_cell_below HB.out hxd
                  obtain ⟨af, rfl, hxf⟩ := Kd.at_int HCf3.out (k2 : Int) (by omega) (by omega)
                  rw [Int.toNat_natCast] at hxf
                  replace hxf := pw_cell_below HB.out hxf
                  have hdr : ds.drop k2 = rd ds k2 :: ds.drop (k2 + 1) := drop_rd ds k2 hlt
                  have hfr : fs.drop k2 = rd fs k2 :: fs.drop (k2 + 1) := drop_rd fs k2 hlf
                  have hfm : rd fs k2 ∈ fs := List.mem_of_mem_drop (i := k2) (by rw [hfr]; exact List.mem_cons_self ..)
                  obtain ⟨d, hde⟩ : ∃ d, rd ds k2 = d := ⟨_, rfl⟩
                  obtain ⟨f, hfe⟩ : ∃ f, rd fs k2 = f := ⟨_, rfl⟩
                  rw [hde] at hxd hdr
                  rw [hfe] at hxf hfr hfm
                  obtain ⟨hf0, hf1⟩ := HFR.out f hfm
                  obtain ⟨q, hq⟩ : ∃ q : Nat, f = (q : Int) - 1 := ⟨(f + 1).toNat, by omega⟩
                  subst hq
                  rw [hdr, hfr, pGo] at HPG
                  rw [hfr] at HSum
                  rw [List.headD_cons, List.tail_cons, show ((q : Int) - 1 + 1).toNat = q from by omega] at HPG
                  have hsum2 : (ps.length : Int) = q + sumF (fs.drop (k2 + 1)) := by
                    rw [HSum.out]; simp only [sumF, List.map_cons, List.sum_cons]; omega
                  have hs0 : 0 ≤ sumF (fs.drop (k2 + 1)) := sumF_nonneg _ fun f hf => (HFR.out f (List.mem_of_mem_drop hf)).1
                  clear hdr hfr hfm hde hfe HSum
                  by_cases hdb : d < 0 ∨ 16384 ≤ d
                  · rw [if_pos hdb] at HPG
                    have HRN : Aside0 (R = ([], false)) := ⟨by rw [← HRR.out, ← HPG.out]⟩
                    by_cases hd0 : d < 0
                    · go_wp2
                      go_ret2
                      have e := HRN.out
                      subst e
                      exact ⟨_, rfl, Px.nil _ _, HX3.out.below.trans (HB.out.mono HW3.out)⟩
                    · have hd1 : d ≥ 16384 := by omega
                      go_wp2
                      go_ret2
                      have e := HRN.out
                      subst e
                      exact ⟨_, rfl, Px.nil _ _, HX3.out.below.trans (HB.out.mono HW3.out)⟩
                  · rw [if_neg hdb] at HPG
                    obtain ⟨hd0, hd1⟩ : ¬ d < 0 ∧ ¬ d ≥ 16384 := by omega
                    have hd2 : 0 ≤ d ∧ d < 16384 := by omega
                    have hqp : q ≤ ps.length := by omega
                    have hq1 : 1 ≤ q := by omega
                    obtain ⟨row, hrow⟩ : ∃ row, ps.take q = row := ⟨_, rfl⟩
                    obtain ⟨rest, hrest⟩ : ∃ rest, ps.drop q = rest := ⟨_, rfl⟩
                    rw [hrow, hrest] at HPG
                    have HRow : Aside0 ((Kd.int .i64).C w3 Ap row.length row) := ⟨by rw [← hrow]; exact C_take HCp.out q hqp⟩
                    have hrl : row.length = q := by rw [← hrow, List.length_take]; omega
                    have HRL := Aside0.mk hrl
                    have HRest : Aside0 ((Kd.int .i64).C w3 (if cp = q then Ap else Option.map (fun x => x.add q) Ap) rest.length rest) := ⟨by rw [← hrest]; exact C_from HCp.out hcp q hqp⟩
                    have hrel2 : rest.length = ps.length - q := by rw [← hrest, List.length_drop]
                    have HREL := Aside0.mk hrel2
                    have HDK : Aside0 (k2 ≤ 1048576) := ⟨by have := HD.out; omega⟩
                    clear hrow hrest hdb hrl hrel2
                    have hdk := HDK.out
                    have hdoc : -1 < la + 1 + d ∧ la + 1 + d ≤ 4398046511104 + (k2 + 1) * 16384 := by omega
                    have hxf2 := pw_cell_below (below_alloc (Below.refl wr.heap.size wr) (.cells #[.int .i64 (la + 1 + d), .slice none 0 0] 58)) hxf
                    go_wp2
                    obtain ⟨wq, rfl⟩ : ∃ wq, wq = wr := ⟨_, rfl⟩
                    clear hxf2 hst hxd
                    have HXF := Aside0.mk hxf
                    clear hxf
                    go_loopg [17, 104] row.length (fun kq v17 v104 w' => ∃ (j : Nat) (v : Value), v104 = .int .i64 j ∧ Aside0 (j ≤ row.length) ∧ v17 = .int .i64 (row.take j).sum ∧ Aside0 (w'.heap[wq.heap.size]? = some (.cells #[.int .i64 (la + 1 + d), v] 58 (0, 0))) ∧ Aside0 (Lx .i64 3 w' wq.heap.size v (sums 0 (row.take j))) ∧ Aside0 (Below wq.heap.size wq w') ∧ (0 ≤ (row.take j).sum ∧ (row.take j).sum ≤ j * 1048576) ∧ Aside0 (∀ x ∈ row.take j, offB x = false) ∧ Aside0 (row.length - j ≤ kq))
                    case atStart => exact ⟨0, _, rfl, ⟨Nat.zero_le _⟩, rfl, ⟨blk_new _ _⟩, ⟨Lx.nil _ _ _ _⟩, ⟨below_alloc (Below.refl _ _) _⟩, by simp, ⟨fun x hx => by simp at hx⟩, ⟨Nat.le_refl _⟩⟩
                    case round =>
                      obtain ⟨j, v, rfl, hj, rfl, HBX, HLX, HBI, hsm, HOF, HJ⟩ := hrel
                      have hjj := hj.out
                      have hrq := HRL.out
                      have hbx0 := blk_cell HBX.out 0
                      have hbx1 := blk_cell HBX.out 1
                      have hbf1 := blk_frozen HBX.out 1
                      by_cases hjl : j < row.length
                      · obtain ⟨ar, rfl, hxn⟩ := Kd.at_int HRow.out (j : Int) (by omega) (by omega)
                        rw [Int.toNat_natCast] at hxn
                        replace hxn := pw_cell_below HBI.out (pw_cell_below HB.out hxn)
                        have htk := take_rd row j hjl
                        have hrm : rd row j ∈ row := by
                          unfold rd
                          rw [Int.toNat_natCast, List.getD_eq_getElem?_getD, List.getElem?_eq_getElem hjl]
                          exact List.getElem_mem hjl
                        have hrd : row.getD j 0 = rd row j := by unfold rd; rw [Int.toNat_natCast]
                        rw [hrd] at htk
                        obtain ⟨x, hxe⟩ : ∃ x, rd row j = x := ⟨_, rfl⟩
                        rw [hxe] at hxn htk hrm
                        have HTK := Aside0.mk htk
                        have hsn := sums_snoc (row.take j) 0 x
                        rw [← htk, Int.zero_add] at hsn
                        have hsu : (row.take (j + 1)).sum = (row.take j).sum + x := by rw [htk, List.sum_append]; simp
                        have HSN := Aside0.mk hsn
                        have HSU := Aside0.mk hsu
                        have HSL : Aside0 ((sums 0 (row.take j)).length ≤ 1048576) := ⟨by rw [sums_length, List.length_take]; omega⟩
                        clear hxe hrd htk hsn hsu
                        obtain ⟨sj, hsj⟩ : ∃ sj, (row.take j).sum = sj := ⟨_, rfl⟩
                        obtain ⟨sl, hsl⟩ : ∃ sl, sums 0 (row.take j) = sl := ⟨_, rfl⟩
                        rw [hsj] at hsm HSN HSU ⊢
                        rw [hsl] at HSN HLX HSL
                        clear hsj hsl
                        by_cases hxb : x < 0 ∨ 1048576 < x
                        · have hany : row.any offB = true := List.any_eq_true.2 ⟨x, hrm, by unfold offB; exact decide_eq_true hxb⟩
                          rw [if_pos hany] at HPG
                          have HRN : Aside0 (R = ([], false)) := ⟨by rw [← HRR.out, ← HPG.out]⟩
                          have HFin := Aside0.mk (HX3.out.below.trans ((HB.out.trans (HBI.out.mono HB.out.size)).mono HW3.out))
                          clear hany
                          by_cases hx0 : x < 0
                          · go_wp2
                            go_ret2
                            have e := HRN.out
                            subst e
                            exact ⟨_, rfl, Px.nil _ _, HFin.out⟩
                          · have hx1 : x > 1048576 := by omega
                            go_wp2
                            go_ret2
                            have e := HRN.out
                            subst e
                            exact ⟨_, rfl, Px.nil _ _, HFin.out⟩
                        · obtain ⟨hx0, hx1⟩ : ¬ x < 0 ∧ ¬ x > 1048576 := by omega
                          have hx2 : 0 ≤ x ∧ x ≤ 1048576 := by omega
                          have hox : offB x = false := by unfold offB; exact decide_eq_false hxb
                          clear hxb hrm
                          have hsb : 0 ≤ sj + x ∧ sj + x ≤ 1099512676352 := by omega
                          go_wp2_with ((with_reducible refine gate_builtin (b := .append) (xs := #[.tmp 118, .tmp 120]) rfl ?_); at_builtin; refine Lx.append_one (w0 := wq) .i64 wq.heap.size rfl (.tmp 118) (.tmp 120) 52 3 8 rfl Try.underlying52 info3 (by decide) v sl (sj + x) rfl rfl ?aO ?aB ?aS ?aL ?_; (case aO => exact HLX.out); (case aB => exact HBI.out); (case aS => exact HBI.out.size); (case aL => have := HSL.out; omega); intro v1 w5 ho hb hg hat; obtain ⟨s2, hs2⟩ : ∃ s2, sl ++ [sj + x] = s2 := ⟨_, rfl⟩; rw [hs2] at ho; have HS2 := Aside0.mk hs2; clear hs2; obtain ⟨A9, c9, rfl, _, _⟩ := ho.reads; have hby := blk_grown HBX.out hg (fun e => by obtain ⟨cells, hcc⟩ := Lax.typed HLX.out _ e.symm; rw [HBX.out] at hcc; injection hcc with hcc; injection hcc with _ hcc; exact absurd hcc (by decide)); have hby1 := blk_cell hby 1; have hbyf := blk_frozen hby 1; have HBY := Aside0.mk hby; have HO5 := Aside0.mk ho; have HB5 := Aside0.mk hb; clear ho hb hg hat hby)
                          go_roundg (row.length - (j + 1))
                          case measure => have := HJ.out; omega
                          case rel => exact ⟨j + 1, .slice A9 s2.length c9, by first | rfl | (simp; done), ⟨by omega⟩, by first | (rw [HSU.out]; done) | (rw [HSU.out]; simp; done), ⟨blk_set HBY.out 1 _⟩, ⟨by
                            rw [HSN.out, HS2.out]
                            exact Lx.far (p := ⟨wq.heap.size, 1, none⟩) HO5.out (fun k hk => by
                              obtain ⟨cells, hcc⟩ := Lax.typed HO5.out k hk
                              intro e
                              have e : k = wq.heap.size := e
                              subst e
                              rw [HBY.out] at hcc
                              injection hcc with hcc
                              injection hcc with _ hcc
                              exact absurd hcc (by decide)) (.slice A9 s2.length c9)⟩, ⟨HB5.out.grown (grownBy_set _ wq.heap.size 1 _) HB5.out.size (fun k e => by injection e; omega)⟩, by rw [HSU.out]; omega, ⟨fun y hy => by
                              rw [HTK.out] at hy
                              rcases List.mem_append.1 hy with hy | hy
                              · exact HOF.out y hy
                              · rw [List.mem_singleton] at hy; rw [hy]; exact hox⟩, ⟨Nat.le_refl _⟩⟩
                      · have hje : j = row.length := by omega
                        have htk : row.take j = row := by rw [hje, List.take_length]
                        rw [htk] at HLX HOF
                        have hany : ¬ row.any offB = true := by
                          intro h
                          obtain ⟨x, hx, hb⟩ := List.any_eq_true.1 h
                          rw [HOF.out x hx] at hb
                          exact absurd hb (by decide)
                        rw [if_neg hany] at HPG
                        have hjl2 : ¬ (j : Int) < (row.length : Int) := by omega
                        have hxf3 := pw_cell_below HBI.out HXF.out
                        obtain ⟨Av, cv, rfl, hcv, hCv⟩ := HLX.out.reads
                        have hcm := Kd.C_max hCv
                        obtain ⟨sl, hsl⟩ : ∃ sl, sums 0 row = sl := ⟨_, rfl⟩
                        rw [hsl] at HLX HPG hCv hcv hcm hbx0 hbx1 HBX
                        clear hany hsl htk hCv
                        have hset : (wr.setCell ⟨wq.heap.size, 1, none⟩ (.slice Av sl.length sl.length)).heap[wq.heap.size]? = some (.cells #[.int .i64 (la + 1 + d), .slice Av sl.length sl.length] 58 (0, 0)) := blk_set HBX.out 1 _
                        have hse0 := blk_cell hset 0
                        have hse1 := blk_cell hset 1
                        have HBI2 : Aside0 (Below wq.heap.size wq (wr.setCell ⟨wq.heap.size, 1, none⟩ (.slice Av sl.length sl.length))) := ⟨HBI.out.grown (grownBy_set _ wq.heap.size 1 _) HBI.out.size (fun k e => by injection e; omega)⟩
                        have HP5 := Aside0.mk (HPX.out.below HBI2.out)
                        have HB5 := Aside0.mk (HB.out.trans (HBI2.out.mono HB.out.size))
                        have HY5 : Aside0 (Lx .i64 3 (wr.setCell ⟨wq.heap.size, 1, none⟩ (.slice Av sl.length sl.length)) w3.heap.size (.slice Av sl.length sl.length) sl) := ⟨Lax.lower (Lax.clip (Lx.far (p := ⟨wq.heap.size, 1, none⟩) HLX.out (fun k hk => by
                              obtain ⟨cells, hcc⟩ := Lax.typed HLX.out k hk
                              intro e
                              have e : k = wq.heap.size := e
                              subst e
                              rw [HBX.out] at hcc
                              injection hcc with hcc
                              injection hcc with _ hcc
                              exact absurd hcc (by decide)) (.slice Av sl.length sl.length))) HB.out.size⟩
                        clear hset
                        by_cases hcq : cp = q
                        · rw [if_pos hcq] at HRest
                          go_wp2_with (first | (go_at_call 87; ((with_reducible refine (ClipN_calls Av sl.length cv _ hcv hcm).mono ?_)); rintro e w6 ⟨rfl, rfl⟩) | ((with_reducible refine gate_builtin (b := .append) (xs := #[.tmp 135, .tmp 137]) rfl ?_); at_builtin; refine Px.append_one (w0 := w3) w3.heap.size rfl (.tmp 135) (.tmp 137) 22 rfl Try.underlying22 info58 u12 out ⟨la + 1 + d, sl⟩ (.slice Av sl.length sl.length) wr.heap.size (by simp [World.setCell]) rfl rfl ?aO ?aY ?aB ?aS ?aL ?_; (case aO => exact HP5.out); (case aY => exact HY5.out); (case aB => exact HB5.out); (case aS => exact HB5.out.size); (case aL => have h1 := HOL.out; have h2 := HDK.out; omega); intro v7 w7 hp7 hb7 hg7 hat7; have HP7 := Aside0.mk hp7; have HB7 := Aside0.mk hb7; clear hp7 hb7 hg7 hat7))
                          go_roundg (ds.length - (k2 + 1))
                          case measure => have := HK.out; omega
                          case rel => exact ⟨k2 + 1, Ap, rest, cp - q, out ++ [⟨la + 1 + d, sl⟩], la + 1 + d, by first | rfl | (simp; done), ⟨by omega⟩, by first | (simp [HREL.out, hcq]; done) | (simp [HREL.out]; done), rfl, by have := HREL.out; omega, HRest, HP7, ⟨by rw [List.length_append]; have := HOL.out; simp; omega⟩, by omega, HPG, ⟨by have := HREL.out; omega⟩, HB7, ⟨Nat.le_refl _⟩⟩
                        · rw [if_neg hcq] at HRest
                          go_wp2_with (first | (go_at_call 87; ((with_reducible refine (ClipN_calls Av sl.length cv _ hcv hcm).mono ?_)); rintro e w6 ⟨rfl, rfl⟩) | ((with_reducible refine gate_builtin (b := .append) (xs := #[.tmp 135, .tmp 137]) rfl ?_); at_builtin; refine Px.append_one (w0 := w3) w3.heap.size rfl (.tmp 135) (.tmp 137) 22 rfl Try.underlying22 info58 u12 out ⟨la + 1 + d, sl⟩ (.slice Av sl.length sl.length) wr.heap.size (by simp [World.setCell]) rfl rfl ?aO ?aY ?aB ?aS ?aL ?_; (case aO => exact HP5.out); (case aY => exact HY5.out); (case aB => exact HB5.out); (case aS => exact HB5.out.size); (case aL => have h1 := HOL.out; have h2 := HDK.out; omega); intro v7 w7 hp7 hb7 hg7 hat7; have HP7 := Aside0.mk hp7; have HB7 := Aside0.mk hb7; clear hp7 hb7 hg7 hat7))
                          go_roundg (ds.length - (k2 + 1))
                          case measure => have := HK.out; omega
                          case rel => exact ⟨k2 + 1, (Option.map (fun x => x.add q) Ap), rest, cp - q, out ++ [⟨la + 1 + d, sl⟩], la + 1 + d, by first | rfl | (simp; done), ⟨by omega⟩, by first | (simp [HREL.out, hcq]; done) | (simp [HREL.out]; done), rfl, by have := HREL.out; omega, HRest, HP7, ⟨by rw [List.length_append]; have := HOL.out; simp; omega⟩, by omega, HPG, ⟨by have := HREL.out; omega⟩, HB7, ⟨Nat.le_refl _⟩⟩
                · have hke : k2 = ds.length := by have := hk2.out; omega
                  have hdr : ds.drop k2 = [] := List.drop_eq_nil_of_le (by omega)
                  rw [hdr, pGo] at HPG
                  have HRN := Aside0.mk HRR.out
                  rw [← HPG.out] at HRN
                  have hlt2 : ¬ (k2 : Int) < (ds.length : Int) := by omega
                  have HFin := Aside0.mk (HX3.out.below.trans (HB.out.mono HW3.out))
                  clear hdr HRR
                  go_wp2
                  go_quiet (fail)
                  go_wp2
                  go_ret2
                  have e := HRN.out
                  subst e
                  refine ⟨_, rfl, ?_, ?_⟩
                  · exact Px.below (Px.lower HPX.out HW3.out) (pw_below_drewN (Below.refl _ _) _)
                  · exact HFin.out.trans ((pw_below_drewN (Below.refl _ _) _).mono HFin.out.size)
            · have h3i : (b3.length : Int) > 0 := by omega
              rw [if_pos (.inr (by intro e; rw [e] at h3; exact h3 rfl))] at HRR
              have hpi : (pl.length : Int) = m := by omega
              clear h3
              go_wp2_with (go_at_call 85; ((with_reducible refine HT3.out.mono ?_)); rintro e w3 ⟨v3, A3, c3, rfl, ho3, hb3, hc3, hC3, hg3⟩; have HX3 := Aside0.mk (HX2.out.took hg3 hb3); have HO3 := Aside0.mk (Lax.lower ho3 HX2.out.below.size); have HO13 := Aside0.mk (Lx.took HO1b.out HX2.out.bx hg3 (Nat.le_refl _)); have HO23 := Aside0.mk (Lx.took HO2.out HX2.out.bx hg3 (Nat.le_refl _)); obtain ⟨Ap, cp, rfl, hcp, hCp⟩ := ho3.reads; have HCp := Aside0.mk hCp; clear hs0 hs1 hs2 hs3 hs4; have hs0 := blk_cell HX3.out.st 0; have hs1 := blk_cell HX3.out.st 1; have hs2 := blk_cell HX3.out.st 2; have hs3 := blk_cell HX3.out.st 3; have hs4 := blk_cell HX3.out.bx 0; clear ho3 hb3 hC3 hg3 hCp)
              go_ret2
              have e := HRR.out
              subst e
              exact ⟨_, rfl, Px.nil _ _, HX3.out.below⟩
          · have hpi : ¬ (pl.length : Int) = m := by omega
            rw [if_pos (.inl hpi)] at HRR
            go_wp2_with (go_at_call 85; ((with_reducible refine HT3.out.mono ?_)); rintro e w3 ⟨v3, A3, c3, rfl, ho3, hb3, hc3, hC3, hg3⟩; have HX3 := Aside0.mk (HX2.out.took hg3 hb3); have HO3 := Aside0.mk (Lax.lower ho3 HX2.out.below.size); have HO13 := Aside0.mk (Lx.took HO1b.out HX2.out.bx hg3 (Nat.le_refl _)); have HO23 := Aside0.mk (Lx.took HO2.out HX2.out.bx hg3 (Nat.le_refl _)); obtain ⟨Ap, cp, rfl, hcp, hCp⟩ := ho3.reads; have HCp := Aside0.mk hCp; clear hs0 hs1 hs2 hs3 hs4; have hs0 := blk_cell HX3.out.st 0; have hs1 := blk_cell HX3.out.st 1; have hs2 := blk_cell HX3.out.st 2; have hs3 := blk_cell HX3.out.st 3; have hs4 := blk_cell HX3.out.bx 0; clear ho3 hb3 hC3 hg3 hCp)
            go_ret2
            have e := HRR.out
            subst e
            exact ⟨_, rfl, Px.nil _ _, HX3.out.below⟩
    · rw [if_pos (.inr hf)] at HRR
      have hfn : ¬ (fs.length : Int) = n := by omega
      go_wp2_with (first | (go_at_call 85; ((with_reducible refine (T2.out _ A1 c1 HX1.out.bx HC1.out hc1 HX1.out.below).mono ?_)); rintro e w2 ⟨v2, A2, c2, rfl, ho2, hb2, hc2, hC2, hg2⟩; have HX2 := Aside0.mk (HX1.out.took hg2 hb2); have HO2 := Aside0.mk (Lax.lower ho2 HX1.out.below.size); have HO1b := Aside0.mk (Lx.took HO1.out HX1.out.bx hg2 (Nat.le_refl _)); have HC2 := Aside0.mk hC2; obtain ⟨Af, cf, rfl, hcf, hCf⟩ := ho2.reads; have HCf := Aside0.mk hCf; have hs0 := blk_cell HX2.out.st 0; have hs1 := blk_cell HX2.out.st 1; have hs2 := blk_cell HX2.out.st 2; have hs3 := blk_cell HX2.out.st 3; have hs4 := blk_cell HX2.out.bx 0; clear ho2 hb2 hC2 hg2 hCf hn3) | (go_at_call 85; ((with_reducible refine (T1.out _ (Hold.new _ _ _ _ _ _ _).bx (Hold.new _ _ _ _ _ _ _).below).mono ?_)); rintro e w1 ⟨v1, A1, c1, rfl, ho1, hb1, hc1, hC1, hg1⟩; have HX1 := Aside0.mk ((Hold.new w A bs.length c ahead last n).took hg1 hb1); have HO1 := Aside0.mk (Lax.lower ho1 (show w.heap.size ≤ _ by simp; omega)); have HC1 := Aside0.mk hC1; obtain ⟨Ad, cd, rfl, hcd, hCd⟩ := ho1.reads; have HCd := Aside0.mk hCd; have hn3 := blk_cell HX1.out.st 3; clear ho1 hb1 hC1 hg1 hCd))
      go_ret2
      have e := HRR.out; subst e; exact ⟨_, rfl, Px.nil _ _, HX2.out.below⟩
  · rw [if_pos (.inl hd)] at HRR
    have hfn : ¬ (ds.length : Int) = n := by omega
    go_wp2_with (first | (go_at_call 85; ((with_reducible refine (T2.out _ A1 c1 HX1.out.bx HC1.out hc1 HX1.out.below).mono ?_)); rintro e w2 ⟨v2, A2, c2, rfl, ho2, hb2, hc2, hC2, hg2⟩; have HX2 := Aside0.mk (HX1.out.took hg2 hb2); have HO2 := Aside0.mk (Lax.lower ho2 HX1.out.below.size); have HO1b := Aside0.mk (Lx.took HO1.out HX1.out.bx hg2 (Nat.le_refl _)); have HC2 := Aside0.mk hC2; obtain ⟨Af, cf, rfl, hcf, hCf⟩ := ho2.reads; have HCf := Aside0.mk hCf; have hs0 := blk_cell HX2.out.st 0; have hs1 := blk_cell HX2.out.st 1; have hs2 := blk_cell HX2.out.st 2; have hs3 := blk_cell HX2.out.st 3; have hs4 := blk_cell HX2.out.bx 0; clear ho2 hb2 hC2 hg2 hCf hn3) | (go_at_call 85; ((with_reducible refine (T1.out _ (Hold.new _ _ _ _ _ _ _).bx (Hold.new _ _ _ _ _ _ _).below).mono ?_)); rintro e w1 ⟨v1, A1, c1, rfl, ho1, hb1, hc1, hC1, hg1⟩; have HX1 := Aside0.mk ((Hold.new w A bs.length c ahead last n).took hg1 hb1); have HO1 := Aside0.mk (Lax.lower ho1 (show w.heap.size ≤ _ by simp; omega)); have HC1 := Aside0.mk hC1; obtain ⟨Ad, cd, rfl, hcd, hCd⟩ := ho1.reads; have HCd := Aside0.mk hCd; have hn3 := blk_cell HX1.out.st 3; clear ho1 hb1 hC1 hg1 hCd))
    go_ret2
    have e := HRR.out; subst e; exact ⟨_, rfl, Px.nil _ _, HX2.out.below⟩
end Go.Proofs.Ytimlgpfcgklddaa.P
/-
postings.Open: the plain words; rows of blocks of a call's own.
-/
namespace Go.Proofs.Ytimlgpfcgklddaa
open Go.RowKit Go.Proofs.YtimlgpfcgklddaaW.PrintWords
/-- A block: its rows, the documents ahead of it and at its end, how many posts. -/
structure Blk where
  b : List Int
  ahead : Int
  last : Int
  n : Nat
def blkR (w : World) (base : Nat) (p : Blk) (cs : List Value) : Prop := ∃ v1, cs = [v1, .int .i64 p.ahead, .int .i64 p.last, .int .i64 p.n] ∧ Lx .u8 5 w base v1 p.b
def Bx (w : World) (base : Nat) (v : Value) (ps : List Blk) : Prop := ∃ cs, Lax w base 96 4 v ps.length cs ∧ Reps (blkR w base) 4 ps cs
theorem reps_one {α : Type} {R : α → List Value → Prop} {size : Nat} {ps : List α} {cs : List Value} (hs : 0 < size) (h : Reps R size ps cs) (h1 : ∀ p c, R p c → ∀ u ∈ c, u.oneCell' = true) : ∀ u ∈ cs, u.oneCell' = true := by
  intro u hu
  obtain ⟨j, hj, rfl⟩ := List.mem_iff_getElem.1 hu
  have hl := h.1
  have hq : j / size < ps.length := by
    rw [Nat.div_lt_iff_lt_mul hs]
    omega
  refine h1 _ _ (h.2 _ _ (List.getElem?_eq_getElem hq)) _ (List.mem_of_getElem? (i := j % size) ?_)
  rw [List.getElem?_take, if_pos (Nat.mod_lt _ hs), List.getElem?_drop, Nat.mul_comm, Nat.div_add_mod]
  exact List.getElem?_eq_getElem hj
theorem reps_append {α : Type} {R : α → List Value → Prop} {size : Nat} {ps qs : List α} {cs ds : List Value} (h : Reps R size ps cs) (k : Reps R size qs ds) : Reps R size (ps ++ qs) (cs ++ ds) := by
  refine ⟨by rw [List.length_append, List.length_append, h.1, k.1, Nat.add_mul], fun j p hj => ?_⟩
  rcases Nat.lt_or_ge j ps.length with hlt | hge
  · rw [List.getElem?_append_left hlt] at hj
    have h7 : j * size + size ≤ cs.length := by rw [h.1, ← Nat.succ_mul]; exact Nat.mul_le_mul_right _ hlt
    rw [List.drop_append_of_le_length (by omega), List.take_append_of_le_length (by rw [List.length_drop]; omega)]
    exact h.2 j p hj
  · rw [List.getElem?_append_right hge] at hj
    rw [List.drop_append, List.drop_eq_nil_of_le (by rw [h.1]; exact Nat.mul_le_mul_right _ hge), List.nil_append, h.1, ← Nat.sub_mul]
    exact k.2 _ p hj
theorem reps_imp {α : Type} {R R' : α → List Value → Prop} {size : Nat} {ps : List α} {cs : List Value} (h : Reps R size ps cs) (hR : ∀ p c, R p c → R' p c) : Reps R' size ps cs := h.imp_ hR
theorem block_ne {w : World} {j : Nat} {c1 c2 : Array Value} {t1 t2 : TypeId} (h1 : w.heap[j]? = some (.cells c1 t1 (0, 0))) (h2 : w.heap[j]? = some (.cells c2 t2 (0, 0))) (hne : t1 ≠ t2) : False := by
  rw [h1] at h2
  injection h2 with h2
  injection h2 with _ h2
  exact hne h2
namespace Bx
section
variable {w w1 : World} {base : Nat} {v : Value} {ps : List Blk}
theorem nil (w : World) (base : Nat) : Bx w base (.slice none 0 0) [] := ⟨[], Lax.nil w base 96 4, Reps.none _ _⟩
theorem below (h : Bx w base v ps) (hb : Below w.heap.size w w1) : Bx w1 base v ps := by
  obtain ⟨cs, h1, h2⟩ := h
  exact ⟨cs, h1.below hb, h2.imp_ fun p c ⟨v1, e, h⟩ => ⟨v1, e, Lx.below h hb⟩⟩
theorem lower {base' : Nat} (h : Bx w base v ps) (hb : base' ≤ base) : Bx w base' v ps := by
  obtain ⟨cs, h1, h2⟩ := h
  exact ⟨cs, h1.lower hb, h2.imp_ fun p c ⟨v1, e, h⟩ => ⟨v1, e, Lx.lower h hb⟩⟩
theorem grown (h : Bx w base v ps) {row : Option Nat} (hg : w.grownBy w1 row) (hne : ∀ k, row = some k → ∃ cells t, w.heap[k]? = some (.cells cells t (0, 0)) ∧ t ≠ 96 ∧ t ≠ 5) : Bx w1 base v ps := by
  obtain ⟨cs, h1, h2⟩ := h
  refine ⟨cs, h1.grown hg fun k hk e => ?_, h2.imp_ fun p c ⟨v1, e, h⟩ => ⟨v1, e, Lax.grown h hg fun k hk e => ?_⟩⟩
  · obtain ⟨cells, hc⟩ := h1.typed k hk
    obtain ⟨c2, t, h3, h4, h5⟩ := hne k e.symm
    exact block_ne h3 hc h4
  · obtain ⟨cells, hc⟩ := Lax.typed h k hk
    obtain ⟨c2, t, h3, h4, h5⟩ := hne k e.symm
    exact block_ne h3 hc h5
theorem block (h : Bx w base v ps) : ∀ k, v.ownBlock = some k → base ≤ k ∧ k < w.heap.size ∧ ∃ cells, w.heap[k]? = some (.cells cells 96 (0, 0)) := by
  obtain ⟨cs, h1, h2⟩ := h
  exact fun k hk => ⟨h1.base_le k hk, h1.lt k hk, h1.typed k hk⟩
theorem slice (h : Bx w base v ps) : ∃ A c, v = .slice A ps.length c ∧ ps.length ≤ c := by
  obtain ⟨cs, h1, h2⟩ := h
  exact h1.slice
/-- The cells of block i. -/
theorem at_ {A : Option Addr} {m c : Nat} (h : Bx w base (.slice A m c) ps) (i : Nat) (hi : i < ps.length) : ∃ ad A1 c1 p, A = some ad ∧ ps[i]? = some p ∧ w.cell? (ad.add (i * 4)) = some (.slice A1 p.b.length c1) ∧ w.cell? ⟨(ad.add (i * 4)).block, (ad.add (i * 4)).off + 1, none⟩ = some (.int .i64 p.ahead) ∧ w.cell? ⟨(ad.add (i * 4)).block, (ad.add (i * 4)).off + 2, none⟩ = some (.int .i64 p.last) ∧ w.cell? ⟨(ad.add (i * 4)).block, (ad.add (i * 4)).off + 3, none⟩ = some (.int .i64 p.n) ∧ p.b.length ≤ c1 ∧ (Kd.int .u8).C w A1 p.b.length p.b := by
  obtain ⟨cs, h1, h2⟩ := h
  rcases h1.2 with ⟨he, hn⟩ | ⟨g, cap, cur, he, hb, hg, hn, hc, hs, ht⟩
  · omega
  · injection he with he he2 he3
    subst he
    obtain ⟨v1, e1, hx⟩ := h2.2 i _ (List.getElem?_eq_getElem hi)
    obtain ⟨A1, c1, rfl, hl1, hC1⟩ := hx.reads
    have hcell : ∀ j u, ([.slice A1 (ps[i]).b.length c1, .int .i64 (ps[i]).ahead, .int .i64 (ps[i]).last, .int .i64 (ps[i]).n] : List Value)[j]? = some u → w.cell? ((⟨g, 0, none⟩ : Addr).add (i * 4 + j)) = some u := by
      intro j u hu
      rw [← e1, List.getElem?_take] at hu
      split at hu
      · rw [List.getElem?_drop] at hu
        exact h1.cells (g := g) rfl _ u hu
      · cases hu
    refine ⟨⟨g, 0, none⟩, A1, c1, ps[i], rfl, List.getElem?_eq_getElem hi, hcell 0 _ rfl, ?_, ?_, ?_, hl1, hC1⟩
    · rw [← add_field _ _ 1 (by omega)]; exact hcell 1 _ rfl
    · rw [← add_field _ _ 2 (by omega)]; exact hcell 2 _ rfl
    · rw [← add_field _ _ 3 (by omega)]; exact hcell 3 _ rfl
end
section
variable {Pg : Program} {ops : Array Oper} {rest : List Oper} {o : Oper} {a : Act} {Q : Exit → Act → World → Prop} {K : Act → World → Prop}
/-- append(v, y) in a region that draws its order; the box of the variadic lies in the goal's world. -/
theorem append_step {w0 W : World} (base : Nat) (hw : Region.wanted o (yielded ops a.tmps) = true) (s x : Operand) (t : TypeId)
    (ho : o.op = .call { callee := .builtin .append, args := #[s, x], argTypes := #[t, t] })
    (ht : Pg.underlying t = some (.slice 96)) (hinfo : (Pg.info? 96).map (fun i => (i.zero, i.size, i.bytes)) = some (some (.agg #[(.slice none 0 0), (.int .i64 0), (.int .i64 0), (.int .i64 0)]), 4, 48))
    (v : Value) (xs : List Blk) (y : Blk) (u : Value) (gN : Nat) (hs : a.eval s = v) (hx : a.eval x = .slice (some ⟨gN, 0, none⟩) 1 1)
    (hnew : W.heap[gN]? = some (.cells #[u, .int .i64 y.ahead, .int .i64 y.last, .int .i64 y.n] 96 (0, 0)))
    (HO : Bx W base v xs) (HY : Lx .u8 5 W base u y.b) (HB : Below base w0 W) (hbase : base ≤ W.heap.size) (hl : (xs.length + 1) * 48 ≤ 140737488355328)
    (h : ∀ v1 w1, Bx w1 base v1 (xs ++ [y]) → Below base w0 w1 → W.grownBy w1 v.ownBlock → K (a.put o.dst v1) w1) :
    if Region.wanted o (yielded ops a.tmps) = true then Oper.wp Pg o a W K Q else K (a.put o.dst undef) W := by
  obtain ⟨i0, hi, hzz⟩ := Option.map_eq_some_iff.1 hinfo
  simp only [Prod.mk.injEq] at hzz
  obtain ⟨hz0, hz1, hz2⟩ := hzz
  rw [if_pos hw]
  have hy1 : u.oneCell' = true := by obtain ⟨A', c', rfl, _⟩ := HY.reads; rfl
  have HOB := block HO
  obtain ⟨cs, HO', hr⟩ := HO
  obtain ⟨v1, w1, hrun, h2, hg, hat⟩ := Lax.run_append (P := Pg) W base t o.type 96 i0 _ 4 48 ht hi hz0 hz1 hz2 rfl (by omega) v xs.length cs HO' ⟨gN, 0, none⟩ 1 1 [u, .int .i64 y.ahead, .int .i64 y.last, .int .i64 y.n] rfl
    (fun j u' hu => by rw [add_plain, blk_cell hnew j]; simpa using hu)
    (fun z hz => by
      rcases List.mem_cons.1 hz with rfl | hz
      · exact hy1
      · simp only [List.mem_cons, List.not_mem_nil, or_false] at hz
        rcases hz with rfl | rfl | rfl <;> rfl) (by simp only [maxLen]; omega) hl hbase
  have hne : ∀ {p c}, blkR W base p c → blkR w1 base p c := by
    rintro p c ⟨u, e, hx⟩
    refine ⟨u, e, Lax.grown hx hg fun k hk e => ?_⟩
    obtain ⟨c1, h1⟩ := Lax.typed hx k hk
    obtain ⟨c2, h2⟩ := HO'.typed k e.symm
    exact block_ne h1 h2 (by decide)
  unfold Oper.wp execOp
  simp only [ho, resolve, invoke, builtin, Sem.run_bind, Sem.run_pure, Result.andThen_ok, List.map_toArray, List.map_cons, List.map_nil, hs, hx, hrun]
  refine h v1 w1 ⟨cs ++ [u, .int .i64 y.ahead, .int .i64 y.last, .int .i64 y.n], by rw [List.length_append]; exact h2, reps_append (hr.imp_ fun p c => hne) ⟨rfl, fun j p hj => ?_⟩⟩ (HB.grown hg hbase (fun k hk => (HOB k hk).1)) hg
  match j with
  | 0 => simp only [List.getElem?_cons_zero, Option.some.injEq] at hj; subst hj; exact hne ⟨u, rfl, HY⟩
  | j + 1 => simp at hj
end
end Bx
/-! ### what Open finds -/
def openGo (bs : List Int) (n : Nat) : Nat → RSt → Nat → Int → List Blk → List P.S58 → Option (List Blk × List P.S58 × RSt)
  | 0, st, _, _, bl, all => some (bl, all, st)
  | m + 1, st, at0, last, bl, all =>
    let a := rSize st bs.length
    let b := rSize a.2 16384
    let d := rBytes b.2 a.1
    let p := postsF d.1 last (last + b.1) (min 8 (n - at0))
    if d.2.e ≠ 0 ∨ p.2 = false then none else openGo bs n m d.2 (at0 + 8) (last + b.1) (bl ++ [⟨d.1, last, last + b.1, min 8 (n - at0)⟩]) (all ++ p.1)
def openF (bs : List Int) : Option (List Blk × Nat) :=
  let a := rSize ⟨bs, 0, 0⟩ 16384
  match openGo bs a.1.toNat ((a.1.toNat + 7) / 8) a.2 0 (-1) [] [] with
  | none => none
  | some (bl, all, st) => if (P.rEnd st).e ≠ 0 ∨ rightB (-1) 0 all = false ∨ formOf all ≠ bs then none else some (bl, a.1.toNat)
theorem rSize_range {s : RSt} (h : s.ok) {most : Int} (hm : 0 ≤ most) : 0 ≤ (rSize s most).1 ∧ (rSize s most).1 ≤ most := by
  have h1 := numF_range (bs := s.bs.drop s.at') (fun x hx => h.range x (List.mem_of_mem_drop hx))
  have h2 : 0 ≤ (sizeF (s.bs.drop s.at') most).1 ∧ (sizeF (s.bs.drop s.at') most).1 ≤ most := by
    unfold sizeF
    split
    · exact ⟨by simp, hm⟩
    · exact ⟨h1.1, by omega⟩
  unfold rSize took
  split
  · exact ⟨by simp, hm⟩
  · split
    · exact ⟨by simp, hm⟩
    · exact h2
theorem pGo_facts : ∀ (ds fs ps : List Int) (la : Int) (out : List P.S58) (R : List P.S58 × Int), pGo ds fs ps la out = some R → R.1.length = out.length + ds.length ∧ ∀ M, (∀ p ∈ out, p.f1.length ≤ M) → ps.length ≤ M → ∀ p ∈ R.1, p.f1.length ≤ M
  | [], fs, ps, la, out, R, h => by
    rw [pGo] at h
    injection h with h
    subst h
    exact ⟨by simp, fun M h _ => h⟩
  | d :: ds, fs, ps, la, out, R, h => by
    rw [pGo] at h
    split at h
    · cases h
    · split at h
      · cases h
      · have ih := pGo_facts _ _ _ _ _ _ h
        refine ⟨by rw [ih.1]; simp; omega, fun M hM hp => ih.2 M (fun p hpm => ?_) (by rw [List.length_drop]; omega)⟩
        rcases List.mem_append.1 hpm with hpm | hpm
        · exact hM p hpm
        · rw [List.mem_singleton] at hpm
          subst hpm
          simp only [sums_length, List.length_take]
          omega
theorem postsF_facts {bs : List Int} {ahead last : Int} {n : Nat} : (postsF bs ahead last n).1.length ≤ n ∧ ∀ p ∈ (postsF bs ahead last n).1, p.f1.length ≤ 1048576 := by
  unfold postsF
  split
  · exact ⟨by simp, fun p hp => by cases hp⟩
  · rename_i hlen
    split
    · exact ⟨by simp, fun p hp => by cases hp⟩
    · rename_i all hall
      split
      · exact ⟨by simp, fun p hp => by cases hp⟩
      · rename_i hpl
        split
        · exact ⟨by simp, fun p hp => by cases hp⟩
        · rename_i out l he
          have h1 := pGo_facts _ _ _ _ _ _ he
          have h2 := allGo_sum _ _ _ hall (by omega) (by omega)
          have hdl : (rowOf bs n).length = n := by
            rcases Nat.decEq (rowOf bs n).length n with h | h
            · exact absurd (.inl h) hlen
            · exact h
          refine ⟨by rw [h1.1, hdl]; simp, h1.2 1048576 (fun p hp => by cases hp) ?_⟩
          rcases Int.decEq ((rowOf (restOf (restOf bs n) n) all.toNat).length : Int) all with h | h
          · exact absurd (.inl h) hpl
          · omega
end Go.Proofs.Ytimlgpfcgklddaa
/-
A block's posts are read back.
-/
namespace Go.Proofs.Ytimlgpfcgklddaa
open Go.RowKit
set_option linter.unusedVariables false
theorem sums_diffs : ∀ (l : List Int) (a : Int), sums a (diffs a l) = l
  | [], _ => rfl
  | x :: r, a => by
    rw [diffs, sums, show a + (x - a) = x from by omega, sums_diffs r]
theorem chk_diffs : ∀ (l : List Int) (prev : Int), chkP l prev = true → 0 ≤ prev → ∀ y ∈ diffs prev l, offB y = false
  | [], _, _, _, y, hy => by cases hy
  | x :: r, prev, h, h0, y, hy => by
    rw [chkP, Bool.and_eq_true, Bool.and_eq_true, Bool.and_eq_true] at h
    simp only [decide_eq_true_iff] at h
    obtain ⟨h1, h2, h3, h4⟩ := h
    rw [diffs] at hy
    rcases List.mem_cons.1 hy with rfl | hy
    · unfold offB
      exact decide_eq_false (by omega)
    · exact chk_diffs r x h4 h1 y hy
theorem postB_chk {last all : Int} {p : P.S58} (h : postB last all p = true) : chkP p.f1 0 = true ∧ last < p.f0 ∧ p.f0 < 16384 ∧ 1 ≤ p.f1.length ∧ all + p.f1.length ≤ 1048576 := by
  unfold postB at h
  simp only [Bool.and_eq_true, decide_eq_true_iff] at h
  obtain ⟨⟨⟨⟨⟨⟨h1, h2⟩, h3⟩, h4⟩, h5⟩, h6⟩, h7⟩ := h
  refine ⟨?_, h1, h2, h3, h4⟩
  rw [← sorted_iff p.f1 h3]
  simp only [Bool.and_eq_true, decide_eq_true_iff]
  exact ⟨⟨h5, h6⟩, h7⟩
theorem pGo_back : ∀ (blk rest : List P.S58) (la all : Int) (out : List P.S58), rightB la all (blk ++ rest) = true → -1 ≤ la → pGo (docsOf la blk) (freqsOf blk) (placesOf blk) la out = some (out ++ blk, lastOf la (blk.map fun p => p.f0))
  | [], rest, la, all, out, h, h0 => by
    show pGo [] [] [] la out = _
    rw [pGo, List.append_nil]
    rfl
  | p :: r, rest, la, all, out, h, h0 => by
    rw [List.cons_append, rightB, Bool.and_eq_true] at h
    obtain ⟨hc, h1, h2, h3, h4⟩ := postB_chk h.1
    have ih := pGo_back r rest p.f0 _ (out ++ [p]) h.2 (by omega)
    have ed : docsOf la (p :: r) = (p.f0 - la - 1) :: docsOf p.f0 r := rfl
    have ef : freqsOf (p :: r) = ((p.f1.length : Int) - 1) :: freqsOf r := rfl
    have ep : placesOf (p :: r) = diffs 0 p.f1 ++ placesOf r := by unfold placesOf; rw [List.flatMap_cons]
    rw [ed, ef, ep, pGo, List.headD_cons, List.tail_cons, show ((p.f1.length : Int) - 1 + 1).toNat = (diffs 0 p.f1).length from by rw [diffs_length]; omega, List.take_left, List.drop_left, if_neg (by omega), if_neg (by
      intro h
      obtain ⟨x, hx, hb⟩ := List.any_eq_true.1 h
      rw [chk_diffs p.f1 0 hc (by omega) x hx] at hb
      cases hb), sums_diffs, show la + 1 + (p.f0 - la - 1) = p.f0 from by omega]
    have e : (⟨p.f0, p.f1⟩ : P.S58) = p := rfl
    rw [e, ih, List.append_assoc]
    rfl
theorem allGo_back : ∀ (fs : List Int) (a : Int), (∀ f ∈ fs, 0 ≤ f) → a + sumF fs ≤ 1048576 → allGo a fs = some (a + sumF fs)
  | [], a, _, _ => by simp [allGo, sumF]
  | f :: r, a, h, hs => by
    have h0 := h f (List.mem_cons_self ..)
    have h1 : 0 ≤ sumF r := P.sumF_nonneg r fun g hg => h g (List.mem_cons_of_mem _ hg)
    have e : sumF (f :: r) = (f + 1) + sumF r := rfl
    rw [e] at hs ⊢
    rw [allGo, if_neg (by omega), allGo_back r (a + (f + 1)) (fun g hg => h g (List.mem_cons_of_mem _ hg)) (by omega)]
    congr 1
    omega
theorem sumF_freqs : ∀ (blk : List P.S58), sumF (freqsOf blk) = ((blk.map fun p => p.f1.length).sum : Nat)
  | [] => rfl
  | p :: r => by
    have e : sumF (freqsOf (p :: r)) = ((p.f1.length : Int) - 1 + 1) + sumF (freqsOf r) := rfl
    rw [e, sumF_freqs r, List.map_cons, List.sum_cons]
    omega
theorem block_ranges {blk : List P.S58} {ahead : Int} (ok : BlockOk blk ahead) : ((docsOf ahead blk).length ≤ 1048576 ∧ ∀ x ∈ docsOf ahead blk, -9223372036854775808 ≤ x ∧ x ≤ 9223372036854775807) ∧ ((freqsOf blk).length ≤ 1048576 ∧ ∀ x ∈ freqsOf blk, -9223372036854775808 ≤ x ∧ x ≤ 9223372036854775807) ∧ ((placesOf blk).length ≤ 1048576 ∧ ∀ x ∈ placesOf blk, -9223372036854775808 ≤ x ∧ x ≤ 9223372036854775807) := by
  have hn := ok.n
  refine ⟨⟨by unfold docsOf; rw [gaps_length, List.length_map]; omega, fun x hx => ?_⟩, ⟨by unfold freqsOf; rw [List.length_map]; omega, fun x hx => ?_⟩, ⟨by rw [P.places_len]; exact ok.tot, fun x hx => ?_⟩⟩
  · have := gaps_range (blk.map fun p => p.f0) (-1) 16383 (fun y hy => by obtain ⟨q, hq, rfl⟩ := List.mem_map.1 hy; have := ok.docs q hq; omega) ahead ok.last0 (by have := ok.last1; omega) x hx
    omega
  · unfold freqsOf at hx
    obtain ⟨q, hq, rfl⟩ := List.mem_map.1 hx
    have h1 := ok.tot
    have h2 : q.f1.length ≤ (blk.map fun p => p.f1.length).sum := P.sum_mem_le (List.mem_map.2 ⟨q, hq, rfl⟩)
    omega
  · unfold placesOf at hx
    obtain ⟨q, hq, hx⟩ := List.mem_flatMap.1 hx
    have := diffs_range q.f1 0 1048576 (fun y hy => (ok.pos q hq).2 y hy) 0 (by omega) (by omega) x hx
    omega
theorem postsF_back (blk rest : List P.S58) (ahead all last : Int) (ok : BlockOk blk ahead) (h : rightB ahead all (blk ++ rest) = true) : postsF (rowsOf ahead blk) ahead last blk.length = (blk, lastOf ahead (blk.map fun p => p.f0) == last) := by
  have hr := block_ranges ok
  have hdl : (docsOf ahead blk).length = blk.length := by unfold docsOf; rw [gaps_length, List.length_map]
  have hfl : (freqsOf blk).length = blk.length := by unfold freqsOf; rw [List.length_map]
  have hpl := P.places_len blk
  have e1 : rowsOf ahead blk = packPut (docsOf ahead blk) ++ (packPut (freqsOf blk) ++ packPut (placesOf blk)) := by unfold rowsOf; rw [List.append_assoc]
  have b1 := rowOf_back (docsOf ahead blk) (packPut (freqsOf blk) ++ packPut (placesOf blk)) hr.1.1 hr.1.2
  have b2 := rowOf_back (freqsOf blk) (packPut (placesOf blk)) hr.2.1.1 hr.2.1.2
  have b3 := rowOf_back (placesOf blk) [] hr.2.2.1 hr.2.2.2
  rw [List.append_nil] at b3
  rw [hdl, ← e1] at b1
  rw [hfl] at b2
  have hall : allGo 0 (freqsOf blk) = some (((placesOf blk).length : Nat) : Int) := by
    have h1 := sumF_freqs blk
    rw [allGo_back (freqsOf blk) 0 (fun f hf => by
      unfold freqsOf at hf
      obtain ⟨q, hq, rfl⟩ := List.mem_map.1 hf
      have := (ok.pos q hq).1
      omega) (by rw [h1]; have := ok.tot; omega), h1, hpl, Int.zero_add]
  unfold postsF
  rw [b1.1, b1.2, b2.1, b2.2, if_neg (by omega), hall]
  dsimp only
  rw [Int.toNat_natCast, b3.1, b3.2, if_neg (by simp), pGo_back blk rest ahead all [] h ok.last0, List.nil_append]
end Go.Proofs.Ytimlgpfcgklddaa
