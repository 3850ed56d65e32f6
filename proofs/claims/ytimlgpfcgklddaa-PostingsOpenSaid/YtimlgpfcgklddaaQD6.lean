/-
Texts of this seat, laid together: D6.
-/
import Derived.Deep.CutRange
import Derived.Deep.RegionLaw
import Derived.Test.YtimlgpfcgklddaaQP5
import Derived.Test.YtimlgpfcgklddaaQP2
namespace Go.Proofs.Ytimlgpfcgklddaa.P
open Go.RowKit Go.Shelf Go.Proofs.YtimlgpfcgklddaaW.PrintWords Go.Proofs.YtimlgpfcgklddaaW.PrintLast Go.Proofs.YtimlgpfcgklddaaW.PrintMore
attribute [local go_sem] min2_mn min_two
set_option linter.unusedVariables false
set_option linter.unusedSimpArgs false
theorem info96 : (Try.prog.info? 96).map (fun i => (i.zero, i.size, i.bytes)) = some (some (.agg #[(.slice none 0 0), (.int .i64 0), (.int .i64 0), (.int .i64 0)]), 4, 48) := by kernel_rfl
theorem Px.keepR {w w' : World} {R base b : Nat} {s : RSt} {v : Value} {l : List S58} (hx : Px w b v l) (h : Rdr w R base s) (hg : w.grownBy w' (some R)) : Px w' b v l := by
  obtain ⟨v', h1, _⟩ := h.v
  exact hx.grown hg (fun k cells e hk => by injection e with e; subst e; exact block_ne h1 hk (by decide)) (fun k cells e hk => by injection e with e; subst e; exact block_ne h1 hk (by decide))
theorem Bx.keepR {w w' : World} {R base b : Nat} {s : RSt} {v : Value} {l : List Blk} (hx : Bx w b v l) (h : Rdr w R base s) (hg : w.grownBy w' (some R)) : Bx w' b v l := by
  obtain ⟨v', h1, _⟩ := h.v
  exact hx.grown hg (fun k e => by injection e with e; subst e; exact ⟨_, _, h1, by decide, by decide⟩)
theorem blk_far4 {w : World} {g g' : Nat} {t : TypeId} {cs : Array Value} (h : w.heap[g]? = some (.cells cs t (0, 0))) (hne : g ≠ g') (u0 u1 u2 u3 : Value) : ((((w.setCell ⟨g', 0, none⟩ u0).setCell ⟨g', 1, none⟩ u1).setCell ⟨g', 2, none⟩ u2).setCell ⟨g', 3, none⟩ u3).heap[g]? = some (.cells cs t (0, 0)) := blk_far (blk_far (blk_far (blk_far h (p := ⟨g', 0, none⟩) hne u0) (p := ⟨g', 1, none⟩) hne u1) (p := ⟨g', 2, none⟩) hne u2) (p := ⟨g', 3, none⟩) hne u3
theorem set4_grown (w : World) (g : Nat) (u0 u1 u2 u3 : Value) : w.grownBy ((((w.setCell ⟨g, 0, none⟩ u0).setCell ⟨g, 1, none⟩ u1).setCell ⟨g, 2, none⟩ u2).setCell ⟨g, 3, none⟩ u3) (some g) := grown_trans (grown_trans (grown_trans (grownBy_set w g 0 u0) (grownBy_set _ g 1 u1)) (grownBy_set _ g 2 u2)) (grownBy_set _ g 3 u3)
theorem set4_blk {w : World} {g : Nat} {t : TypeId} {a b c d : Value} (h : w.heap[g]? = some (.cells #[a, b, c, d] t (0, 0))) (u0 u1 u2 u3 : Value) : ((((w.setCell ⟨g, 0, none⟩ u0).setCell ⟨g, 1, none⟩ u1).setCell ⟨g, 2, none⟩ u2).setCell ⟨g, 3, none⟩ u3).heap[g]? = some (.cells #[u0, u1, u2, u3] t (0, 0)) := blk_set (blk_set (blk_set (blk_set h 0 u0) 1 u1) 2 u2) 3 u3
/-- A row of blocks, where another block of the same type is written. -/
theorem Bx.other {w w' : World} {b g : Nat} {v : Value} {l : List Blk} (h : Bx w b v l) (hg : w.grownBy w' (some g)) (hne : ∀ k, v.ownBlock = some k → k ≠ g) {cells : Array Value} (ht : w.heap[g]? = some (.cells cells 96 (0, 0))) : Bx w' b v l := by
  obtain ⟨cs, h1, h2⟩ := h
  refine ⟨cs, h1.grown hg (fun k hk e => by injection e with e; exact hne k hk e), h2.imp_ fun p c ⟨v1, e, h⟩ => ⟨v1, e, Lax.grown h hg fun k hk e => ?_⟩⟩
  obtain ⟨c2, hc⟩ := Lax.typed h k hk
  injection e with e
  subst e
  exact block_ne ht hc (by decide)
theorem blk_keepR {w w' : World} {R base L : Nat} {s : RSt} {cs : Array Value} {t : TypeId} (hx : w.heap[L]? = some (.cells cs t (0, 0))) (ht : t ≠ 125) (h : Rdr w R base s) (hg : w.grownBy w' (some R)) : w'.heap[L]? = some (.cells cs t (0, 0)) := by
  obtain ⟨v', h1, _⟩ := h.v
  exact blk_grown hx hg (fun e => by injection e with e; subst e; exact block_ne hx h1 ht)
set_option maxRecDepth 100000 in
set_option maxHeartbeats 2000000 in
theorem Open_calls (A : Option Addr) (bs : List Int) (c : Nat) (w : World) (h : (Kd.int .u8).C w A bs.length bs) (hc : bs.length ≤ c) (hl : bs.length ≤ 140737488355328) (hr : ∀ x ∈ bs, 0 ≤ x ∧ x < 256) :
    Calls Try.prog 16 #[.slice A bs.length c] w fun e w' => (openF bs = none ∧ e = .returned (.tuple #[.pointer none, .int .i64 20]) ∨ ∃ bl n L vb, openF bs = some (bl, n) ∧ e = .returned (.tuple #[.pointer (some ⟨L, 0, none⟩), .int .i64 0]) ∧ w.heap.size ≤ L ∧ w'.heap[L]? = some (.cells #[vb, .int .i64 n] 93 (0, 0)) ∧ Bx w' w.heap.size vb bl) ∧ Below w.heap.size w w' := by
  have H := Aside0.mk h
  have HR := Aside0.mk hr
  obtain ⟨R, hR⟩ : ∃ R, openF bs = R := ⟨_, rfl⟩
  rw [hR]
  have hok0 : RSt.ok ⟨bs, 0, 0⟩ := ⟨by simp, hl, hr⟩
  have hn0 := rSize_range (s := ⟨bs, 0, 0⟩) hok0 (most := 16384) (by decide)
  unfold openF at hR
  obtain ⟨ni, s1, hs1⟩ : ∃ ni s1, rSize ⟨bs, 0, 0⟩ 16384 = (ni, s1) := ⟨_, _, rfl⟩
  rw [hs1] at hR hn0
  dsimp only at hR hn0
  obtain ⟨n, rfl⟩ := Int.eq_ofNat_of_zero_le hn0.1
  rw [Int.toNat_natCast] at hR
  have HRR := Aside0.mk hR
  have HS1 := Aside0.mk hs1
  clear h hr hR hs1 hok0
  go_enter Try.func16, Try.ntmps16
  go_wp2_with (first | (go_at_call 50; ((with_reducible refine (NewReader_calls A bs c _ H.out hc hl HR.out).mono ?_)); rintro e w1 ⟨Rb, rfl, hR0, hrd, hb⟩; have HRD := Aside0.mk hrd; have HB := Aside0.mk hb; clear hrd hb) | (go_at_call 51; ((with_reducible refine (Size_calls Rb w.heap.size ⟨bs, 0, 0⟩ 16384 _ HRD.out (by decide)).mono ?_)); rw [HS1.out]; rintro e w2 ⟨rfl, hrd, hg⟩; have HRD2 := Aside0.mk hrd; have HB2 := Aside0.mk (HB.out.grown hg HB.out.size (fun k e => by injection e; omega)); clear hrd hg))
  obtain ⟨G, hG⟩ : ∃ G, openGo bs n ((n + 7) / 8) s1 0 (-1) [] [] = G := ⟨_, rfl⟩
  rw [hG] at HRR
  have HG0 := Aside0.mk hG
  have HL0 := Aside0.mk (blk_new w2 (.cells #[.slice none 0 0, .int .i64 (n : Int)] 93))
  have HBL0 := Aside0.mk (below_alloc (Below.refl w2.heap.size w2) (.cells #[.slice none 0 0, .int .i64 (n : Int)] 93))
  have hsb1 : s1.bs = bs := by have := rSize_bs ⟨bs, 0, 0⟩ 16384; rw [HS1.out] at this; exact this
  have HS1B := Aside0.mk hsb1
  clear hG hsb1
  go_loopg [6, 7, 8] ((n + 7) / 8) (fun kq v6 v7 v8 w' => ∃ (at0 : Nat) (la : Int) (bl : List Blk) (all : List S58) (st : RSt) (vb : Value), v8 = .int .i64 at0 ∧ v7 = .int .i64 la ∧ Aside0 (Px w' w.heap.size v6 all) ∧ Aside0 (w'.heap[w2.heap.size]? = some (.cells #[vb, .int .i64 (n : Int)] 93 (0, 0))) ∧ Aside0 (Bx w' w.heap.size vb bl) ∧ Aside0 (Rdr w' Rb w.heap.size st) ∧ Aside0 (Below w.heap.size w w') ∧ (-1 ≤ la ∧ la ≤ at0 * 16384) ∧ at0 ≤ n + 7 ∧ Aside0 (kq = (n - at0 + 7) / 8) ∧ Aside0 (bl.length ≤ at0 ∧ all.length ≤ at0 ∧ ∀ p ∈ all, p.f1.length ≤ 1048576) ∧ Aside0 (openGo bs n kq st at0 la bl all = G) ∧ Aside0 (st.bs = bs))
  case atStart => exact ⟨0, -1, [], [], s1, _, rfl, rfl, ⟨Px.nil _ _⟩, HL0, ⟨Bx.nil _ _⟩, ⟨HRD2.out.below HBL0.out⟩, ⟨HB2.out.trans (HBL0.out.mono HB2.out.size)⟩, by omega, by omega, ⟨by simp⟩, ⟨by simp, by simp, fun p hp => by cases hp⟩, HG0, HS1B⟩
  case round =>
    obtain ⟨at0, la, bl, all, st, vb, rfl, rfl, HPX, HL, HBX, HRD3, HB3, hla, hat, HKQ, HLN, HG, HSB⟩ := hrel
    have hL1 := blk_cell HL.out 1
    by_cases hlt : at0 < n
    · have hkq := HKQ.out
      obtain ⟨m, rfl⟩ : ∃ m, gk = m + 1 := ⟨gk - 1, by omega⟩
      have hg := HG.out
      rw [openGo] at hg
      try dsimp only at hg
      have hok := HRD3.out.ok
      have hr1 := rSize_range hok (most := (bs.length : Int)) (by omega)
      obtain ⟨sz, sa, hsa⟩ : ∃ sz sa, rSize st (bs.length : Int) = (sz, sa) := ⟨_, _, rfl⟩
      have HSz : Aside0 (∀ W, Rdr W Rb w.heap.size st → Calls Try.prog 51 #[.pointer (some ⟨Rb, 0, none⟩), .int .i64 (bs.length : Int)] W fun e w' => e = .returned (.int .i64 sz) ∧ Rdr w' Rb w.heap.size sa ∧ W.grownBy w' (some Rb)) := ⟨fun W hW => by
        have := Size_calls Rb w.heap.size st (bs.length : Int) W hW (by omega)
        rw [hsa] at this
        exact this⟩
      have hbsa := rSize_bs st (bs.length : Int)
      rw [hsa] at hg hr1 hbsa
      try dsimp only at hg hr1 hbsa
      obtain ⟨en, sb, hsb⟩ : ∃ en sb, rSize sa 16384 = (en, sb) := ⟨_, _, rfl⟩
      have HSe : Aside0 (∀ W, Rdr W Rb w.heap.size sa → Calls Try.prog 51 #[.pointer (some ⟨Rb, 0, none⟩), .int .i64 16384] W fun e w' => e = .returned (.int .i64 en) ∧ Rdr w' Rb w.heap.size sb ∧ W.grownBy w' (some Rb) ∧ (0 ≤ en ∧ en ≤ 16384)) := ⟨fun W hW => by
        have := Size_calls Rb w.heap.size sa 16384 W hW (by decide)
        have h2 := rSize_range hW.ok (most := 16384) (by decide)
        rw [hsb] at this h2
        exact this.mono fun e w' h => ⟨h.1, h.2.1, h.2.2, h2⟩⟩
      have hbsb := rSize_bs sa 16384
      rw [hsb] at hg hbsb
      try dsimp only at hg hbsb
      obtain ⟨by_, sd, hsd⟩ : ∃ by_ sd, rBytes sb sz = (by_, sd) := ⟨_, _, rfl⟩
      have HBy : Aside0 (∀ W, Rdr W Rb w.heap.size sb → Calls Try.prog 52 #[.pointer (some ⟨Rb, 0, none⟩), .int .i64 sz] W fun e w' => ∃ v, e = .returned v ∧ Lx .u8 5 w' W.heap.size v by_ ∧ Rdr w' Rb w.heap.size sd ∧ W.grownBy w' (some Rb)) := ⟨fun W hW => by
        have := Bytes_calls Rb w.heap.size sb sz W hW
        rw [hsd] at this
        exact this⟩
      have hbsd := rBytes_bs sb sz
      rw [hsd] at hg hbsd
      try dsimp only at hg hbsd
      have HBSD : Aside0 (sd.bs = bs) := ⟨by rw [hbsd, hbsb, hbsa]; exact HSB.out⟩
      obtain ⟨k, hk⟩ : ∃ k, min 8 (n - at0) = k := ⟨_, rfl⟩
      rw [hk] at hg
      have hk1 : 1 ≤ k := by omega
      have hk8 : k ≤ 8 := by omega
      have hmn : mn 8 ((n : Int) - (at0 : Int)) = (k : Int) := by unfold mn; split <;> omega
      have hbyl : by_.length ≤ 140737488355328 ∧ ∀ x ∈ by_, 0 ≤ x ∧ x < 256 := by
        have h1 : by_ = (rBytes sb sz).1 := by rw [hsd]
        rw [h1]
        unfold rBytes
        have h2 : sb.bs = bs := by rw [hbsb, hbsa]; exact HSB.out
        split
        · exact ⟨by simp, fun x hx => by cases hx⟩
        · split
          · exact ⟨by simp, fun x hx => by cases hx⟩
          · rw [h2]
            exact ⟨by rw [List.length_take, List.length_drop]; omega, fun x hx => HR.out x (List.mem_of_mem_drop (List.mem_of_mem_take hx))⟩
      have HBYR := Aside0.mk hbyl.2
      have hbyl := hbyl.1
      clear hsa hsb hsd hbsa hbsb hbsd hok hkq
      have HG2 := Aside0.mk hg
      clear hg hk HG
      go_upto_region 10 with (first | (go_at_call 51; ((with_reducible refine (HSz.out _ HRD3.out).mono ?_)); rintro e w4 ⟨rfl, hrd, hg⟩; have HRD4 := Aside0.mk hrd; have HG4 := Aside0.mk hg; clear hrd hg) | (go_at_call 51; ((with_reducible refine (HSe.out _ HRD4.out).mono ?_)); rintro e w5 ⟨rfl, hrd, hg, hen⟩; have HRD5 := Aside0.mk hrd; have HG5 := Aside0.mk (grown_trans HG4.out hg); clear hrd hg))
      have HL5 := Aside0.mk (blk_keepR HL.out (by decide) HRD3.out HG5.out)
      have HP5 := Aside0.mk (Px.keepR HPX.out HRD3.out HG5.out)
      have HX5 := Aside0.mk (Bx.keepR HBX.out HRD3.out HG5.out)
      have HB5 := Aside0.mk (HB3.out.grown HG5.out HB3.out.size (fun k e => by injection e; omega))
      have hL15 := blk_cell HL5.out 1
      clear HRD4 HG4 HG5 HPX HL HBX HRD3 HB3 hL1
      have hwr : IntKind.i64.wrap ((n : Int) - (at0 : Int)) = (n : Int) - (at0 : Int) := by rw [IntKind.wrap_i64]; omega
      go_cut [11] from 22 to 76 (fun v11 w6 => ∃ (X : Nat) (vby : Value), v11 = .pointer (some ⟨X, 0, none⟩) ∧ Aside0 (w6.heap[X]? = some (.cells #[vby, .int .i64 la, .int .i64 (la + en), .int .i64 (k : Int)] 96 (0, 0))) ∧ Aside0 (Lx .u8 5 w6 w.heap.size vby by_) ∧ Aside0 (Rdr w6 Rb w.heap.size sd) ∧ Aside0 (w6.heap[w2.heap.size]? = some (.cells #[vb, .int .i64 (n : Int)] 93 (0, 0))) ∧ Aside0 (Px w6 w.heap.size u6 all) ∧ Aside0 (Bx w6 w.heap.size vb bl) ∧ Aside0 (Below w.heap.size w w6))
      case first =>
        have hL15d : w5.drew.cell? ⟨w2.heap.size, 1, none⟩ = some (.int .i64 (n : Int)) := hL15
        have hL15a : (w5.alloc (.cells #[.slice none 0 0, .int .i64 0, .int .i64 0, .int .i64 0] 96)).cell? ⟨w2.heap.size, 1, none⟩ = some (.int .i64 (n : Int)) := pw_cell_below (below_alloc (Below.refl _ _) _) hL15
        have hL15b : (w5.alloc (.cells #[.slice none 0 0, .int .i64 0, .int .i64 0, .int .i64 0] 96)).drew.cell? ⟨w2.heap.size, 1, none⟩ = some (.int .i64 (n : Int)) := hL15a
        go_region_held3 (fun w' => w'.cell? ⟨w2.heap.size, 1, none⟩ = some (.int .i64 (n : Int))) (first | with_reducible exact hL15d | with_reducible exact hL16 | with_reducible exact hL15a | with_reducible exact hL15b | with_reducible exact pw_cell_below (below_alloc (Below.refl _ _) _) hL16 | with_reducible exact HLZ.out _ _ _ _) (first | (go_at_call 52; ((with_reducible refine (HBy.out _ HRD5.out.drew).mono ?_)); rintro e w6 ⟨vby, rfl, hov, hrd6, hg6⟩; obtain ⟨Ab, cb, rfl, _, _⟩ := hov.reads; have HOV := Aside0.mk hov; have HRD6 := Aside0.mk hrd6; have HG6 := Aside0.mk (show w5.grownBy w6 (some Rb) from ⟨hg6.os, hg6.tape, hg6.output, hg6.size, hg6.block⟩); have hL16 : w6.cell? ⟨w2.heap.size, 1, none⟩ = some (.int .i64 (n : Int)) := blk_cell (blk_keepR HL5.out (by decide) HRD5.out HG6.out) 1; clear hov hrd6 hg6) | (go_at_call 52; ((with_reducible refine (HBy.out _ (Rdr.below HRD5.out (below_alloc (Below.refl _ _) _)).drew).mono ?_)); rintro e w6 ⟨vby, rfl, hov, hrd6, hg6⟩; obtain ⟨Ab, cb, rfl, _, _⟩ := hov.reads; have HOV := Aside0.mk hov; have HRD6 := Aside0.mk hrd6; have HG6 := Aside0.mk hg6; have hz : w6.heap[w5.heap.size]? = some (.cells #[.slice none 0 0, .int .i64 0, .int .i64 0, .int .i64 0] 96 (0, 0)) := (blk_grown (blk_drew (blk_new w5 (.cells #[.slice none 0 0, .int .i64 0, .int .i64 0, .int .i64 0] 96))) hg6 (fun e => by injection e with e; have h1 : w5.heap.size = Rb := e; have := HRD5.out.lt; omega)); have HZ := Aside0.mk hz; have hz0 := blk_cell hz 0; have hz1 := blk_cell hz 1; have hz2 := blk_cell hz 2; have hz3 := blk_cell hz 3; have hf0 := blk_frozen hz 0; have hf1 := blk_frozen hz 1; have hf2 := blk_frozen hz 2; have hf3 := blk_frozen hz 3; have hL16 : w6.cell? ⟨w2.heap.size, 1, none⟩ = some (.int .i64 (n : Int)) := blk_cell (blk_keepR (blk_drew (blk_alloc HL5.out (.cells #[.slice none 0 0, .int .i64 0, .int .i64 0, .int .i64 0] 96))) (by decide) (Rdr.below HRD5.out (below_alloc (Below.refl _ _) _)).drew hg6) 1; have HLB6 := Aside0.mk (blk_keepR (blk_drew (blk_alloc HL5.out (.cells #[.slice none 0 0, .int .i64 0, .int .i64 0, .int .i64 0] 96))) (by decide) (Rdr.below HRD5.out (below_alloc (Below.refl _ _) _)).drew hg6); have HLZ : Aside0 (∀ u0 u1 u2 u3, ((((w6.setCell ⟨w5.heap.size, 0, none⟩ u0).setCell ⟨w5.heap.size, 1, none⟩ u1).setCell ⟨w5.heap.size, 2, none⟩ u2).setCell ⟨w5.heap.size, 3, none⟩ u3).cell? ⟨w2.heap.size, 1, none⟩ = some (.int .i64 (n : Int))) := ⟨fun u0 u1 u2 u3 => blk_cell (blk_far4 HLB6.out (by have := blk_lt HL5.out; omega) u0 u1 u2 u3) 1⟩; clear hov hrd6 hg6 hz))
        all_goals (
          go_wp2_with fail
          go_meet
          first
          | exact ⟨_, _, rfl, ⟨blk_new w6 _⟩, ⟨Lx.alloc (Lax.lower HOV.out HB5.out.size) _⟩, ⟨HRD6.out.below (below_alloc (Below.refl _ _) _)⟩, ⟨blk_alloc (blk_keepR HL5.out (by decide) HRD5.out HG6.out) _⟩, ⟨Px.below (Px.keepR HP5.out HRD5.out HG6.out) (below_alloc (Below.refl _ _) _)⟩, ⟨Bx.below (Bx.keepR HX5.out HRD5.out HG6.out) (below_alloc (Below.refl _ _) _)⟩, ⟨below_alloc (HB5.out.grown HG6.out HB5.out.size (fun k e => by injection e; omega)) _⟩⟩
          | exact ⟨_, _, rfl, ⟨set4_blk HZ.out _ _ _ _⟩, ⟨Lax.lower (Lax.grown HOV.out (set4_grown _ _ _ _ _ _) (fun k hk e => by injection e with e; subst e; obtain ⟨c2, hc2⟩ := Lax.typed HOV.out _ hk; exact block_ne HZ.out hc2 (by decide))) (Nat.le_trans HB5.out.size (by show w5.heap.size ≤ (w5.alloc _).heap.size; simp))⟩, ⟨HRD6.out.grown (set4_grown _ _ _ _ _ _) (fun e => by injection e with e; have := HRD5.out.lt; omega) (fun j e cells hc => by injection e with e; subst e; exact block_ne HZ.out hc (by decide))⟩, ⟨blk_far4 HLB6.out (by have := blk_lt HL5.out; omega) _ _ _ _⟩, ⟨Px.grown (Px.keepR (Px.below HP5.out (below_drew (below_alloc (Below.refl _ _) _))) (Rdr.below HRD5.out (below_alloc (Below.refl _ _) _)).drew HG6.out) (set4_grown _ _ _ _ _ _) (fun k cells e hc => by injection e with e; subst e; exact block_ne HZ.out hc (by decide)) (fun k cells e hc => by injection e with e; subst e; exact block_ne HZ.out hc (by decide))⟩, ⟨Bx.other (Bx.keepR (Bx.below HX5.out (below_drew (below_alloc (Below.refl _ _) _))) (Rdr.below HRD5.out (below_alloc (Below.refl _ _) _)).drew HG6.out) (set4_grown _ _ _ _ _ _) (fun k hk => by have := (Bx.block HX5.out k hk).2.1; omega) HZ.out⟩, ⟨((HB5.out.trans ((below_drew (below_alloc (Below.refl _ _) _)).mono HB5.out.size)).grown HG6.out (Nat.le_trans HB5.out.size (by show w5.heap.size ≤ (w5.alloc _).heap.size; simp)) (fun k e => by injection e; omega)).grown (set4_grown _ _ _ _ _ _) (Nat.le_trans HB5.out.size (Nat.le_of_lt (blk_lt HZ.out))) (fun k e => by injection e with e; have := HB5.out.size; omega)⟩⟩)
      case rest =>
        obtain ⟨X, vby, rfl, HXB, HOV, HRD6, HL6, HP6, HX6, HB6⟩ := hcut
        obtain ⟨Ab, cb, rfl, hcb, hCb⟩ := HOV.out.reads
        have HCb := Aside0.mk hCb
        have hx0 := blk_cell HXB.out 0
        have hx1 := blk_cell HXB.out 1
        have hx2 := blk_cell HXB.out 2
        have hx3 := blk_cell HXB.out 3
        obtain ⟨ps, okb, hps⟩ : ∃ ps okb, postsF by_ la (la + en) k = (ps, okb) := ⟨_, _, rfl⟩
        have hpf := postsF_facts (bs := by_) (ahead := la) (last := la + en) (n := k)
        have HPo : Aside0 (∀ W, Below wc.heap.size wc W → Calls Try.prog 53 #[.agg #[.slice Ab by_.length cb, .int .i64 la, .int .i64 (la + en), .int .i64 k]] W fun e w' => ∃ v, e = .returned (.tuple #[v, .bool okb]) ∧ Px w' W.heap.size v ps ∧ Below W.heap.size W w') := ⟨fun W hW => by
          have := posts_calls Ab by_ cb k la (la + en) W (Kd.C_below HCb.out hW) hcb hbyl HBYR.out (by omega) hk1 (by omega)
          rw [hps] at this
          exact this⟩
        rw [hps] at HG2 hpf
        have HPF := Aside0.mk hpf
        clear hCb hps hpf HL5 HP5 HX5 HB5 HRD5
        obtain ⟨bsd, asd, esd⟩ := sd
        by_cases he : esd = 0
        · subst he
          cases okb with
          | true =>
            rw [if_neg (by simp)] at HG2
            have hb6 : bl.length ≤ at0 := HLN.out.1
            obtain ⟨Avb, cvb, rfl, hcvb⟩ := Bx.slice HX6.out
            go_upto_region 14 with (first | (go_at_call 53; ((with_reducible refine (HPo.out _ (Below.refl _ _)).mono ?_)); rintro e w7 ⟨v7, rfl, hp7, hb7⟩; have HP7 := Aside0.mk hp7; have HB7 := Aside0.mk hb7; clear hp7 hb7) | (go_at_call 54; ((with_reducible refine (Err_calls Rb w.heap.size _ _ (HRD6.out.below HB7.out)).mono ?_)); rintro e w8 ⟨rfl, rfl⟩))
            have HL7 := Aside0.mk (blk_below HL6.out HB7.out)
            have HXB7 := Aside0.mk (blk_below HXB.out HB7.out)
            have HOV7 := Aside0.mk (Lx.below HOV.out HB7.out)
            have HX7 := Aside0.mk (Bx.below HX6.out HB7.out)
            have HPA7 := Aside0.mk (Px.below HP6.out HB7.out)
            have HR7 := Aside0.mk (HRD6.out.below HB7.out)
            have HB77 := Aside0.mk (HB6.out.trans (HB7.out.mono HB6.out.size))
            have hl0 := blk_cell HL7.out 0
            have hl0a := blk_cell (blk_alloc HL7.out (.cells #[.slice Ab by_.length cb, .int .i64 la, .int .i64 (la + en), .int .i64 (k : Int)] 96)) 0
            have hx70 := blk_cell HXB7.out 0
            have hx71 := blk_cell HXB7.out 1
            have hx72 := blk_cell HXB7.out 2
            have hx73 := blk_cell HXB7.out 3
            clear hx0 hx1 hx2 hx3 HL6 HXB HOV HX6 HP6 HRD6
            go_cut [] from 22 to 76 (fun w9 => ∃ v9, Aside0 (w9.heap[w2.heap.size]? = some (.cells #[v9, .int .i64 (n : Int)] 93 (0, 0))) ∧ Aside0 (Bx w9 w.heap.size v9 (bl ++ [⟨by_, la, la + en, k⟩])) ∧ Aside0 (Rdr w9 Rb w.heap.size ⟨bsd, asd, 0⟩) ∧ Aside0 (Px w9 w.heap.size u6 all) ∧ Aside0 (Px w9 w.heap.size v7 ps) ∧ Aside0 (Below w.heap.size w w9))
            case first =>
              go_region_law (refine Bx.append_step (w0 := w) w.heap.size (by rfl) (.tmp 67) (.tmp 69) 91 rfl Try.underlying91 info96 (.slice Avb bl.length cvb) bl ⟨by_, la, la + en, k⟩ (.slice Ab by_.length cb) w8.heap.size rfl rfl ?aN ?aO ?aY ?aB ?aS ?aL ?_; (case aN => first | exact blk_drew (blk_new w8 _) | exact blk_new w8.drew _); (case aO => exact Bx.below HX7.out (by repeat (first | apply below_alloc | apply below_drew | exact Below.refl _ _))); (case aY => exact Lx.below HOV7.out (by repeat (first | apply below_alloc | apply below_drew | exact Below.refl _ _))); (case aB => exact HB77.out.trans (Below.mono (by repeat (first | apply below_alloc | apply below_drew | exact Below.refl _ _)) HB77.out.size)); (case aS => exact Nat.le_trans HB77.out.size (Below.size (by repeat (first | apply below_alloc | apply below_drew | exact Below.refl _ _)))); (case aL => omega); intro v9 w9 ho hb hg; obtain ⟨A9, c9, rfl, _⟩ := Bx.slice ho; rw [List.length_append, List.length_singleton] at ho; have hl9 := blk_grown (w1 := w9) (row := (Value.slice Avb bl.length cvb).ownBlock) (blk_below HL7.out (by repeat (first | apply below_alloc | apply below_drew | exact Below.refl _ _))) hg (fun e => by obtain ⟨cc, h1⟩ := (Bx.block HX7.out _ e.symm).2.2; exact block_ne HL7.out h1 (by decide)); have HL9 := Aside0.mk hl9; have hl90 := blk_cell hl9 0; have hl9f := blk_frozen hl9 0; have HX9 := Aside0.mk ho; have HB9 := Aside0.mk hb; have HR9 := Aside0.mk (Rdr.grown (w' := w9) (row := (Value.slice Avb bl.length cvb).ownBlock) (Rdr.below HR7.out (by repeat (first | apply below_alloc | apply below_drew | exact Below.refl _ _))) hg (fun e => by obtain ⟨cc, h1⟩ := (Bx.block HX7.out _ e.symm).2.2; exact HR7.out.not (by decide) h1) (fun j e cells hc => by obtain ⟨cc, h1⟩ := (Bx.block HX7.out _ e).2.2; exact block_ne (blk_below h1 (by repeat (first | apply below_alloc | apply below_drew | exact Below.refl _ _))) hc (by decide))); have HA9 := Aside0.mk (Px.grown (w1 := w9) (row := (Value.slice Avb bl.length cvb).ownBlock) (Px.below HPA7.out (by repeat (first | apply below_alloc | apply below_drew | exact Below.refl _ _))) hg (fun j cells e hc => by obtain ⟨cc, h1⟩ := (Bx.block HX7.out _ e).2.2; exact block_ne (blk_below h1 (by repeat (first | apply below_alloc | apply below_drew | exact Below.refl _ _))) hc (by decide)) (fun j cells e hc => by obtain ⟨cc, h1⟩ := (Bx.block HX7.out _ e).2.2; exact block_ne (blk_below h1 (by repeat (first | apply below_alloc | apply below_drew | exact Below.refl _ _))) hc (by decide))); have HS9 := Aside0.mk (Px.grown (w1 := w9) (row := (Value.slice Avb bl.length cvb).ownBlock) (Px.below HP7.out (by repeat (first | apply below_alloc | apply below_drew | exact Below.refl _ _))) hg (fun j cells e hc => by obtain ⟨cc, h1⟩ := (Bx.block HX7.out _ e).2.2; exact block_ne (blk_below h1 (by repeat (first | apply below_alloc | apply below_drew | exact Below.refl _ _))) hc (by decide)) (fun j cells e hc => by obtain ⟨cc, h1⟩ := (Bx.block HX7.out _ e).2.2; exact block_ne (blk_below h1 (by repeat (first | apply below_alloc | apply below_drew | exact Below.refl _ _))) hc (by decide))); clear ho hb hg hl9)
              all_goals (
                go_wp2_with fail
                go_meet
                exact ⟨_, ⟨blk_set HL9.out 0 _⟩, ⟨Bx.grown HX9.out (grownBy_set _ w2.heap.size 0 _) (fun k e => by injection e with e; subst e; exact ⟨_, _, HL9.out, by decide, by decide⟩)⟩, ⟨Rdr.grown HR9.out (grownBy_set _ w2.heap.size 0 _) (fun e => by injection e with e; subst e; exact HR9.out.not (by decide) HL9.out) (fun j e cells hc => by injection e with e; subst e; exact block_ne HL9.out hc (by decide))⟩, ⟨Px.grown HA9.out (grownBy_set _ w2.heap.size 0 _) (fun k cells e hc => by injection e with e; subst e; exact block_ne HL9.out hc (by decide)) (fun k cells e hc => by injection e with e; subst e; exact block_ne HL9.out hc (by decide))⟩, ⟨Px.grown (Px.lower HS9.out HB6.out.size) (grownBy_set _ w2.heap.size 0 _) (fun k cells e hc => by injection e with e; subst e; exact block_ne HL9.out hc (by decide)) (fun k cells e hc => by injection e with e; subst e; exact block_ne HL9.out hc (by decide))⟩, ⟨HB9.out.grown (grownBy_set _ w2.heap.size 0 _) HB9.out.size (fun k e => by injection e with e; have := HB2.out.size; omega)⟩⟩)
            case rest =>
              obtain ⟨v9, HL9, HX9, HR9, HA9, HS9, HB9⟩ := hcut
              have HLA : Aside0 (all.length ≤ 20000 ∧ ps.length ≤ 8) := ⟨by have := HLN.out.2.1; omega, by have := HPF.out.1; omega⟩
              go_wp2_with ((with_reducible refine gate_builtin (b := .append) (xs := #[.tmp 73, .tmp 74]) rfl ?_); at_builtin; refine Px.append_row (w0 := w) w.heap.size rfl (.tmp 73) (.tmp 74) 22 rfl Try.underlying22 info58 u6 v7 all ps rfl rfl ?aO ?aR ?aB ?aS ?aL ?_; (case aO => exact HA9.out); (case aR => exact HS9.out); (case aB => exact HB9.out); (case aS => exact HB9.out.size); (case aL => have := HLA.out; omega); intro v10 w10 ho hb hg _; have HP10 := Aside0.mk ho; have HB10 := Aside0.mk hb; have HG10 := Aside0.mk hg; clear ho hb hg)
              have hne : ∀ k, u6.ownBlock = some k → ∃ cells, wc.heap[k]? = some (.cells cells 58 (0, 0)) := fun k hk => (Px.block HA9.out k hk).2.2
              have HNE := Aside0.mk hne
              clear hne
              go_roundg m
              case measure => omega
              case rel => exact ⟨at0 + 8, la + en, bl ++ [⟨by_, la, la + en, k⟩], all ++ ps, ⟨bsd, asd, 0⟩, v9, by first | rfl | (simp; done), rfl, HP10, ⟨blk_grown HL9.out HG10.out (fun e => by obtain ⟨cc, h1⟩ := HNE.out _ e.symm; exact block_ne HL9.out h1 (by decide))⟩, ⟨Bx.grown HX9.out HG10.out (fun k e => by obtain ⟨cc, h1⟩ := HNE.out _ e; exact ⟨_, _, h1, by decide, by decide⟩)⟩, ⟨Rdr.grown HR9.out HG10.out (fun e => by obtain ⟨cc, h1⟩ := HNE.out _ e.symm; exact HR9.out.not (by decide) h1) (fun j e cells hc => by obtain ⟨cc, h1⟩ := HNE.out _ e; exact block_ne h1 hc (by decide))⟩, HB10, by omega, by omega, ⟨by have := HKQ.out; omega⟩, ⟨by rw [List.length_append, List.length_singleton]; omega, by rw [List.length_append]; have := HLN.out.2.1; have h8 : ps.length ≤ k := HPF.out.1; omega, fun p hp => by
                rcases List.mem_append.1 hp with hp | hp
                · exact HLN.out.2.2 p hp
                · exact HPF.out.2 p hp⟩, HG2, HBSD⟩
          | false =>
            rw [if_pos (.inr rfl)] at HG2
            have HN : Aside0 (R = none) := ⟨by rw [← HRR.out, ← HG2.out]⟩
            go_wp2_with (first | (go_at_call 53; ((with_reducible refine (HPo.out _ (Below.refl _ _)).mono ?_)); rintro e w7 ⟨v7, rfl, hp7, hb7⟩; have HP7 := Aside0.mk hp7; have HB7 := Aside0.mk hb7; clear hp7 hb7) | (go_at_call 54; ((with_reducible refine (Err_calls Rb w.heap.size _ _ (HRD6.out.below HB7.out)).mono ?_)); rintro e w8 ⟨rfl, rfl⟩))
            go_ret2
            exact ⟨.inl ⟨HN.out, rfl⟩, HB6.out.trans (HB7.out.mono HB6.out.size)⟩
        · rw [if_pos (.inl he)] at HG2
          have HN : Aside0 (R = none) := ⟨by rw [← HRR.out, ← HG2.out]⟩
          go_wp2_with (first | (go_at_call 53; ((with_reducible refine (HPo.out _ (Below.refl _ _)).mono ?_)); rintro e w7 ⟨v7, rfl, hp7, hb7⟩; have HP7 := Aside0.mk hp7; have HB7 := Aside0.mk hb7; clear hp7 hb7) | (go_at_call 54; ((with_reducible refine (Err_calls Rb w.heap.size _ _ (HRD6.out.below HB7.out)).mono ?_)); rintro e w8 ⟨rfl, rfl⟩))
          go_ret2
          exact ⟨.inl ⟨HN.out, rfl⟩, HB6.out.trans (HB7.out.mono HB6.out.size)⟩
    · have hkz : gk = 0 := by have := HKQ.out; omega
      subst hkz
      have hg := HG.out
      rw [openGo] at hg
      rw [← hg] at HRR
      have HRR2 := HRR.out
      dsimp only at HRR2
      have HR2 := Aside0.mk HRR2
      clear hg HRR2 HG HRR
      obtain ⟨Aa, ca, rfl, hca, hCa⟩ := Px.reads HPX.out
      have HCa := Aside0.mk hCa
      have HAL : Aside0 (all.length ≤ 20000) := ⟨by have := HLN.out.2.1; omega⟩
      have HBu : Aside0 (Calls Try.prog 10 #[.slice Aa all.length ca] wr fun e w' => ∃ v, e = .returned (.tuple #[v, .int .i64 (if rightB (-1) 0 all = true then 0 else 1)]) ∧ Lx .u8 5 w' wr.heap.size v (if rightB (-1) 0 all = true then formOf all else []) ∧ Below wr.heap.size wr w') := ⟨(Build_calls Aa all ca wr HCa.out hca 1048576 HLN.out.2.2 (by decide) (by have := HAL.out; omega)).mono fun e w' ⟨v, h1, h2, _, h3⟩ => ⟨v, h1, h2, h3⟩⟩
      clear hCa
      have HE0 : Aside0 (∀ W, Rdr W Rb w.heap.size st → Calls Try.prog 55 #[.pointer (some ⟨Rb, 0, none⟩)] W fun e w' => e = .returned (.int .i64 (rEnd st).e) ∧ W.grownBy w' (some Rb)) := ⟨fun W hW => (End_calls Rb w.heap.size st W hW).mono fun e w' ⟨h1, _, h3⟩ => ⟨h1, h3⟩⟩
      obtain ⟨en, hen⟩ : ∃ en, (rEnd st).e = en := ⟨_, rfl⟩
      rw [hen] at HE0 HR2
      clear hen
      by_cases he : en = 0
      · subst he
        cases hrb : rightB (-1) 0 all with
        | true =>
          rw [hrb] at HBu HR2
          simp only [if_true] at HBu
          by_cases hfe : formOf all = bs
          · rw [if_neg (by simp [hfe])] at HR2
            have hdec : decide (formOf all = bs) = true := decide_eq_true hfe
            have HDec := Aside0.mk hdec
            clear hdec hfe
            obtain ⟨fa, hfa⟩ : ∃ fa, formOf all = fa := ⟨_, rfl⟩
            rw [hfa] at HBu HDec
            clear hfa
            go_wp2_with (first | (go_at_call 10; ((with_reducible refine HBu.out.mono ?_)); rintro e w11 ⟨v11, rfl, hf, hb11⟩; obtain ⟨A6, c6, rfl, hc6, _⟩ := hf.reads; have HF := Aside0.mk hf; have HB11 := Aside0.mk hb11; have HR11 := Aside0.mk (HRD3.out.below hb11); clear hf hb11) | (go_at_call 55; ((with_reducible refine (HE0.out _ HR11.out).mono ?_)); rintro e w12 ⟨rfl, hg12⟩; have HG12 := Aside0.mk hg12; have HB12 := Aside0.mk ((HB3.out.trans (HB11.out.mono HB3.out.size)).grown hg12 (Nat.le_trans HB3.out.size HB11.out.size) (fun k e => by injection e; omega)); clear hg12) | (go_at_call 56; ((with_reducible refine (Equal_calls A6 A c6 c fa bs _ (Lx.reads' (Lx.keepR HF.out HR11.out (by decide) HG12.out)).2.2 hc6 (Kd.C_below H.out HB12.out) hc).mono ?_)); rintro e w13 ⟨rfl, hd⟩; rw [HDec.out]; have HD := Aside0.mk hd; clear hd))
            go_ret2
            obtain ⟨kd, rfl⟩ := HD.out.out
            have e := HR2.out
            subst e
            have hgw := pw_below_drewN (Below.refl w12.heap.size w12) kd
            refine ⟨.inr ⟨bl, n, w2.heap.size, vb, rfl, rfl, HB2.out.size, ?_, ?_⟩, ?_⟩
            · exact blk_below (blk_keepR (blk_below HL.out HB11.out) (by decide) HR11.out HG12.out) hgw
            · exact Bx.below (Bx.keepR (Bx.below HBX.out HB11.out) HR11.out HG12.out) hgw
            · exact HB12.out.trans (hgw.mono HB12.out.size)
          · rw [if_pos (.inr (.inr hfe))] at HR2
            have hdec : decide (formOf all = bs) = false := decide_eq_false hfe
            have HDec := Aside0.mk hdec
            clear hdec hfe
            obtain ⟨fa, hfa⟩ : ∃ fa, formOf all = fa := ⟨_, rfl⟩
            rw [hfa] at HBu HDec
            clear hfa
            go_wp2_with (first | (go_at_call 10; ((with_reducible refine HBu.out.mono ?_)); rintro e w11 ⟨v11, rfl, hf, hb11⟩; obtain ⟨A6, c6, rfl, hc6, _⟩ := hf.reads; have HF := Aside0.mk hf; have HB11 := Aside0.mk hb11; have HR11 := Aside0.mk (HRD3.out.below hb11); clear hf hb11) | (go_at_call 55; ((with_reducible refine (HE0.out _ HR11.out).mono ?_)); rintro e w12 ⟨rfl, hg12⟩; have HG12 := Aside0.mk hg12; have HB12 := Aside0.mk ((HB3.out.trans (HB11.out.mono HB3.out.size)).grown hg12 (Nat.le_trans HB3.out.size HB11.out.size) (fun k e => by injection e; omega)); clear hg12) | (go_at_call 56; ((with_reducible refine (Equal_calls A6 A c6 c fa bs _ (Lx.reads' (Lx.keepR HF.out HR11.out (by decide) HG12.out)).2.2 hc6 (Kd.C_below H.out HB12.out) hc).mono ?_)); rintro e w13 ⟨rfl, hd⟩; rw [HDec.out]; have HD := Aside0.mk hd; clear hd))
            go_ret2
            obtain ⟨kd, rfl⟩ := HD.out.out
            exact ⟨.inl ⟨HR2.out.symm, rfl⟩, HB12.out.trans ((pw_below_drewN (Below.refl w12.heap.size w12) kd).mono HB12.out.size)⟩
        | false =>
          rw [hrb] at HBu HR2
          rw [if_pos (.inr (.inl rfl))] at HR2
          simp only [Bool.false_eq_true, if_false] at HBu
          go_wp2_with (first | (go_at_call 10; ((with_reducible refine HBu.out.mono ?_)); rintro e w11 ⟨v11, rfl, hf, hb11⟩; have HF := Aside0.mk hf; have HB11 := Aside0.mk hb11; have HR11 := Aside0.mk (HRD3.out.below hb11); clear hf hb11) | (go_at_call 55; ((with_reducible refine (HE0.out _ HR11.out).mono ?_)); rintro e w12 ⟨rfl, hg12⟩; have HG12 := Aside0.mk hg12; have HB12 := Aside0.mk ((HB3.out.trans (HB11.out.mono HB3.out.size)).grown hg12 (Nat.le_trans HB3.out.size HB11.out.size) (fun k e => by injection e; omega)); clear hg12))
          go_ret2
          exact ⟨.inl ⟨HR2.out.symm, rfl⟩, HB12.out⟩
      · rw [if_pos (.inl he)] at HR2
        have hen : ¬ en = 0 := he
        obtain ⟨ee, hee⟩ : ∃ ee : Int, (if rightB (-1) 0 all = true then (0 : Int) else 1) = ee := ⟨_, rfl⟩
        rw [hee] at HBu
        clear hee
        go_wp2_with (first | (go_at_call 10; ((with_reducible refine HBu.out.mono ?_)); rintro e w11 ⟨v11, rfl, hf, hb11⟩; have HF := Aside0.mk hf; have HB11 := Aside0.mk hb11; have HR11 := Aside0.mk (HRD3.out.below hb11); clear hf hb11) | (go_at_call 55; ((with_reducible refine (HE0.out _ HR11.out).mono ?_)); rintro e w12 ⟨rfl, hg12⟩; have HG12 := Aside0.mk hg12; have HB12 := Aside0.mk ((HB3.out.trans (HB11.out.mono HB3.out.size)).grown hg12 (Nat.le_trans HB3.out.size HB11.out.size) (fun k e => by injection e; omega)); clear hg12))
        go_ret2
        exact ⟨.inl ⟨HR2.out.symm, rfl⟩, HB12.out⟩
end Go.Proofs.Ytimlgpfcgklddaa.P
