/-
Texts of this seat, laid together: O2, M7, C5.
-/
import Derived.Deep.RegionHeld3
import Derived.Test.YtimlgpfcgklddaaQF97
import Derived.Test.YtimlgpfcgklddaaQA4
import Derived.Test.YtimlgpfcgklddaaQC1
import Derived.Test.YtimlgpfcgklddaaQO1
namespace Go.Proofs.Ytimlgpfcgklddaa
open Go.RowKit Go.Proofs.YtimlgpfcgklddaaW.PrintWords Go.Proofs.YtimlgpfcgklddaaW.PrintLast
set_option linter.unusedVariables false
/-- The document's reader at a block, over bytes at A. -/
structure Rf (w0 w : World) (R : Nat) (A : Option Addr) (c : Nat) (s : RSt) : Prop where
  v : w.heap[R]? = some (.cells #[.slice A s.bs.length c, .int .i64 (s.at' : Int), .int .i64 s.e] 114 (0, 0))
  C0 : (Kd.int .u8).C w0 A s.bs.length s.bs
  hc : s.bs.length ≤ c
  ok : s.ok
  ge : w0.heap.size ≤ R
  bel : Below w0.heap.size w0 w
theorem Rf.lt {w0 w : World} {R : Nat} {A : Option Addr} {c : Nat} {s : RSt} (h : Rf w0 w R A c s) : R < w.heap.size := (Array.getElem?_eq_some_iff.1 h.v).1
theorem Rf.below {w0 w w' : World} {R : Nat} {A : Option Addr} {c : Nat} {s : RSt} (h : Rf w0 w R A c s) (hb : Below w.heap.size w w') : Rf w0 w' R A c s :=
  ⟨(hb.block R h.lt).trans h.v, h.C0, h.hc, h.ok, h.ge, h.bel.trans (hb.mono h.bel.size)⟩
theorem Rf.put1 {w0 w : World} {R : Nat} {A : Option Addr} {c : Nat} {s : RSt} (h : Rf w0 w R A c s) (n : Nat) (hn : n ≤ s.bs.length) : Rf w0 (w.setCell ⟨R, 1, none⟩ (.int .i64 (n : Int))) R A c { s with at' := n } :=
  ⟨blk_put h.v 1 _ rfl, h.C0, h.hc, ⟨hn, h.ok.len, h.ok.range⟩, h.ge, h.bel.grown (P.grownBy_set w R 1 _) h.bel.size (fun k e => by injection e with e; have := h.ge; omega)⟩
theorem Rf.put2 {w0 w : World} {R : Nat} {A : Option Addr} {c : Nat} {s : RSt} (h : Rf w0 w R A c s) (e : Int) : Rf w0 (w.setCell ⟨R, 2, none⟩ (.int .i64 e)) R A c { s with e := e } :=
  ⟨blk_put h.v 2 _ rfl, h.C0, h.hc, ⟨h.ok.le, h.ok.len, h.ok.range⟩, h.ge, h.bel.grown (P.grownBy_set w R 2 _) h.bel.size (fun k e => by injection e with e; have := h.ge; omega)⟩
def qnum (bs : List Int) : Int × Int := if (numR bs).2 = 0 then (0, -1) else numR bs
def qsize (bs : List Int) (most : Int) : Int × Int := if (numR bs).2 = 0 ∨ most < 0 ∨ (numR bs).1 > most then (0, -1) else numR bs
def qSize (s : RSt) (most : Int) : Int × RSt := took s (qsize (s.bs.drop s.at') most)
def qNum (s : RSt) : Int × RSt := took s (qnum (s.bs.drop s.at'))
def qInt (s : RSt) : Int × RSt := (unz (qNum s).1, (qNum s).2)
theorem qSize_bs (s : RSt) (most : Int) : (qSize s most).2.bs = s.bs := by
  unfold qSize took
  split
  · rfl
  · split <;> rfl
theorem qNum_bs (s : RSt) : (qNum s).2.bs = s.bs := by
  unfold qNum took
  split
  · rfl
  · split <;> rfl
theorem back_eq (u : Int) (h0 : 0 ≤ u) (h1 : u < 18446744073709551616) : P.lecternref02_Back.f u = some (unz u) := by
  unfold P.lecternref02_Back.f unz
  rw [Int.tmod_eq_emod_of_nonneg h0, Int.tdiv_eq_ediv_of_nonneg h0]
  have e1 : wrap64 (IntKind.u64.wrap (u / 2)) = u / 2 := by rw [u64w (by omega) (by omega), w64 (by omega) (by omega)]
  rw [e1]
  split
  · rfl
  · rw [w64 (x := -(u / 2)) (by omega) (by omega), w64 (by omega) (by omega)]
end Go.Proofs.Ytimlgpfcgklddaa
namespace Go.Proofs.Ytimlgpfcgklddaa.P
open Go.RowKit Go.Shelf Go.Proofs.YtimlgpfcgklddaaW.PrintWords Go.Proofs.YtimlgpfcgklddaaW.PrintLast Go.Proofs.YtimlgpfcgklddaaW.PrintMore
set_option linter.unusedVariables false
set_option linter.unusedSimpArgs false
theorem refnum_calls (A : Option Addr) (bs : List Int) (c : Nat) (w : World) (h : (Kd.int .u8).C w A bs.length bs) (hc : bs.length ≤ c) (hl : bs.length ≤ 140737488355328) (hb : ∀ x ∈ bs, 0 ≤ x ∧ x < 256) :
    Calls Try.prog 97 #[.slice A bs.length c] w fun e w' => e = .returned (.tuple #[.int .u64 (numR bs).1, .int .i64 (numR bs).2]) ∧ Below w.heap.size w w' := by
  obtain ⟨k, hk⟩ := (num_ev bs hl hb).rounds
  exact lecternref02_number.calls k A c bs _ _ w h hc hk
set_option maxRecDepth 100000 in
set_option maxHeartbeats 1000000 in
theorem QSize_calls (w0 : World) (R : Nat) (A : Option Addr) (c : Nat) (s : RSt) (most : Int) (w : World) (h : Rf w0 w R A c s) (hm : most < 9223372036854775808) :
    Calls Try.prog 66 #[.pointer (some ⟨R, 0, none⟩), .int .i64 most] w fun e w' => e = .returned (.int .i64 (qSize s most).1) ∧ Rf w0 w' R A c (qSize s most).2 ∧ w.grownBy w' (some R) := by
  have HH := Aside0.mk h
  obtain ⟨hle, hlen, hrange⟩ := h.ok
  have hb := h.v
  have hC := Kd.C_below h.C0 h.bel
  have hc := h.hc
  have HR := Aside0.mk hrange
  obtain ⟨bs, at0, e0⟩ := s
  dsimp only at *
  have hc0 := blk_cell hb 0
  have hc1 := blk_cell hb 1
  have hc2 := blk_cell hb 2
  have hf1 := blk_frozen hb 1
  have hf2 := blk_frozen hb 2
  have H1 := Aside0.mk hb
  unfold qSize took
  dsimp only
  clear h hb hrange
  by_cases he : e0 = 0
  · subst he
    rw [if_neg (by decide)]
    have HN : Aside0 (∀ W, Below w.heap.size w W → Calls Try.prog 97 #[.slice (if c = at0 then A else Option.map (fun x => x.add at0) A) (bs.length - at0) (c - at0)] W fun e w' => e = .returned (.tuple #[.int .u64 (numR (bs.drop at0)).1, .int .i64 (numR (bs.drop at0)).2]) ∧ Below W.heap.size W w') := ⟨fun W hW => by
      have := refnum_calls (if c = at0 then A else Option.map (fun x => x.add at0) A) (bs.drop at0) (c - at0) W (Kd.C_below (C_from hC hc at0 hle) hW) (by rw [List.length_drop]; omega) (by rw [List.length_drop]; omega) (fun x hx => HR.out x (List.mem_of_mem_drop hx))
      rw [List.length_drop] at this
      exact this⟩
    obtain ⟨A', hA'⟩ : ∃ A', (if c = at0 then A else Option.map (fun x => x.add at0) A) = A' := ⟨_, rfl⟩
    rw [hA'] at HN
    have hr := numR_facts (bs.drop at0)
    rw [List.length_drop] at hr
    unfold qsize
    obtain ⟨u, n, hun⟩ : ∃ u n, numR (bs.drop at0) = (u, n) := ⟨_, _, rfl⟩
    rw [hun] at HN hr ⊢
    dsimp only at HN hr ⊢
    obtain ⟨hu0, hu1, hn0, hn1, hn2⟩ := hr
    clear hun hC
    have hk0 : w.drew.cell? ⟨R, 0, none⟩ = some (.slice A bs.length c) := hc0
    have hk1 : w.drew.cell? ⟨R, 1, none⟩ = some (.int .i64 (at0 : Int)) := hc1
    by_cases hneg : n = 0
    · have hq : (if n = 0 ∨ most < 0 ∨ u > most then ((0 : Int), (-1 : Int)) else (u, n)) = (0, -1) := if_pos (.inl hneg)
      rw [hq, if_pos (by decide)]
      clear hq
      go_enter Try.func66, Try.ntmps66
      go_wp2
      go_region_held3 (fun w' => w'.cell? ⟨R, 0, none⟩ = some (.slice A bs.length c) ∧ w'.cell? ⟨R, 1, none⟩ = some (.int .i64 (at0 : Int))) (first | with_reducible exact ⟨hk0, hk1⟩ | with_reducible exact ⟨hd0, hd1⟩) (first | (go_at_call 97; ((with_reducible refine (HN.out _ (Below.drew (Below.refl _ _))).mono ?_)); rintro e w5 ⟨rfl, hb5⟩; have hB5 : Below w.heap.size w w5 := ⟨hb5.os, hb5.tape, hb5.output, hb5.size, hb5.block⟩; have HB5 := Aside0.mk hB5; have hz := blk_below H1.out hB5; have hd0 : w5.cell? ⟨R, 0, none⟩ = some (.slice A bs.length c) := blk_cell hz 0; have hd1 : w5.cell? ⟨R, 1, none⟩ = some (.int .i64 (at0 : Int)) := blk_cell hz 1; have hd2 := blk_cell hz 2; have hg2 := blk_frozen hz 2; clear hb5 hB5 hz))
      go_wp2
      go_ret
      exact ⟨rfl, (HH.out.below HB5.out).put2 20, below_set HB5.out R 2 _⟩
    · by_cases hm0 : most < 0
      · have hq : (if n = 0 ∨ most < 0 ∨ u > most then ((0 : Int), (-1 : Int)) else (u, n)) = (0, -1) := if_pos (.inr (.inl hm0))
        rw [hq, if_pos (by decide)]
        clear hq
        go_enter Try.func66, Try.ntmps66
        go_wp2
        go_region_held3 (fun w' => w'.cell? ⟨R, 0, none⟩ = some (.slice A bs.length c) ∧ w'.cell? ⟨R, 1, none⟩ = some (.int .i64 (at0 : Int))) (first | with_reducible exact ⟨hk0, hk1⟩ | with_reducible exact ⟨hd0, hd1⟩) (first | (go_at_call 97; ((with_reducible refine (HN.out _ (Below.drew (Below.refl _ _))).mono ?_)); rintro e w5 ⟨rfl, hb5⟩; have hB5 : Below w.heap.size w w5 := ⟨hb5.os, hb5.tape, hb5.output, hb5.size, hb5.block⟩; have HB5 := Aside0.mk hB5; have hz := blk_below H1.out hB5; have hd0 : w5.cell? ⟨R, 0, none⟩ = some (.slice A bs.length c) := blk_cell hz 0; have hd1 : w5.cell? ⟨R, 1, none⟩ = some (.int .i64 (at0 : Int)) := blk_cell hz 1; have hd2 := blk_cell hz 2; have hg2 := blk_frozen hz 2; clear hb5 hB5 hz))
        go_wp2
        go_ret
        exact ⟨rfl, (HH.out.below HB5.out).put2 20, below_set HB5.out R 2 _⟩
      · have hwm : IntKind.u64.wrap most = most := by rw [wrap_u64]; omega
        by_cases hgt : u > most
        · have hq : (if n = 0 ∨ most < 0 ∨ u > most then ((0 : Int), (-1 : Int)) else (u, n)) = (0, -1) := if_pos (.inr (.inr hgt))
          rw [hq, if_pos (by decide)]
          clear hq
          go_enter Try.func66, Try.ntmps66
          go_wp2
          go_region_held3 (fun w' => w'.cell? ⟨R, 0, none⟩ = some (.slice A bs.length c) ∧ w'.cell? ⟨R, 1, none⟩ = some (.int .i64 (at0 : Int))) (first | with_reducible exact ⟨hk0, hk1⟩ | with_reducible exact ⟨hd0, hd1⟩) (first | (go_at_call 97; ((with_reducible refine (HN.out _ (Below.drew (Below.refl _ _))).mono ?_)); rintro e w5 ⟨rfl, hb5⟩; have hB5 : Below w.heap.size w w5 := ⟨hb5.os, hb5.tape, hb5.output, hb5.size, hb5.block⟩; have HB5 := Aside0.mk hB5; have hz := blk_below H1.out hB5; have hd0 : w5.cell? ⟨R, 0, none⟩ = some (.slice A bs.length c) := blk_cell hz 0; have hd1 : w5.cell? ⟨R, 1, none⟩ = some (.int .i64 (at0 : Int)) := blk_cell hz 1; have hd2 := blk_cell hz 2; have hg2 := blk_frozen hz 2; clear hb5 hB5 hz))
          go_wp2
          go_ret
          exact ⟨rfl, (HH.out.below HB5.out).put2 20, below_set HB5.out R 2 _⟩
        · have hq : (if n = 0 ∨ most < 0 ∨ u > most then ((0 : Int), (-1 : Int)) else (u, n)) = (u, n) := if_neg (by omega)
          rw [hq, if_neg (by show ¬ n < 0; omega)]
          clear hq
          have hnb : (n == 0) = false := beq_eq_false_iff_ne.mpr hneg
          have hwa : IntKind.i64.wrap ((at0 : Int) + n) = (at0 : Int) + n := by rw [IntKind.wrap_i64]; omega
          have hwu : IntKind.i64.wrap u = u := by rw [IntKind.wrap_i64]; omega
          have hna : ((at0 + n.toNat : Nat) : Int) = (at0 : Int) + n := by omega
          go_enter Try.func66, Try.ntmps66
          go_wp2
          go_region_held3 (fun w' => w'.cell? ⟨R, 0, none⟩ = some (.slice A bs.length c) ∧ w'.cell? ⟨R, 1, none⟩ = some (.int .i64 (at0 : Int))) (first | with_reducible exact ⟨hk0, hk1⟩ | with_reducible exact ⟨hd0, hd1⟩) (first | (go_at_call 97; ((with_reducible refine (HN.out _ (Below.drew (Below.refl _ _))).mono ?_)); rintro e w5 ⟨rfl, hb5⟩; have hB5 : Below w.heap.size w w5 := ⟨hb5.os, hb5.tape, hb5.output, hb5.size, hb5.block⟩; have HB5 := Aside0.mk hB5; have hz := blk_below H1.out hB5; have hd0 : w5.cell? ⟨R, 0, none⟩ = some (.slice A bs.length c) := blk_cell hz 0; have hd1 : w5.cell? ⟨R, 1, none⟩ = some (.int .i64 (at0 : Int)) := blk_cell hz 1; have hd2 := blk_cell hz 2; have hg1 := blk_frozen hz 1; clear hb5 hB5 hz))
          have h1 := (HH.out.below HB5.out).put1 (at0 + n.toNat) (by show at0 + n.toNat ≤ bs.length; omega)
          rw [hna] at h1
          have HP := Aside0.mk h1
          clear h1
          go_wp2
          go_ret
          exact ⟨rfl, HP.out, below_set HB5.out R 1 _⟩
  · rw [if_pos he]
    clear hC
    go_enter Try.func66, Try.ntmps66
    go_wp2
    go_ret
    exact ⟨rfl, HH.out, grown_of_below (Below.refl _ _) _⟩
end Go.Proofs.Ytimlgpfcgklddaa.P
namespace Go.Proofs.Ytimlgpfcgklddaa
open Go.RowKit
/-- The great number of bytes, the least first. -/
def leVal : List Int → Nat
  | [] => 0
  | x :: r => x.toNat + 256 * leVal r
theorem leVal_leB : ∀ (bs : List Int), (∀ x ∈ bs, 0 ≤ x ∧ x < 256) → leB bs.length (leVal bs) = bs
  | [], _ => rfl
  | x :: r, h => by
    have hx := h x (List.mem_cons_self ..)
    have ih := leVal_leB r fun y hy => h y (List.mem_cons_of_mem _ hy)
    unfold leB at ih ⊢
    rw [List.length_cons, List.range_succ_eq_map, List.map_cons, List.map_map]
    congr 1
    · rw [leVal, Nat.pow_zero, Nat.div_one]
      omega
    · refine Eq.trans ?_ ih
      apply List.map_congr_left
      intro j _
      simp only [Function.comp]
      rw [leVal, Nat.pow_succ, Nat.mul_comm (256 ^ j), ← Nat.div_div_eq_div_mul]
      have e : (x.toNat + 256 * leVal r) / 256 = leVal r := by omega
      rw [e]
theorem leVal_lt : ∀ (bs : List Int), (∀ x ∈ bs, 0 ≤ x ∧ x < 256) → leVal bs < 256 ^ bs.length
  | [], _ => by decide
  | x :: r, h => by
    have hx := h x (List.mem_cons_self ..)
    have ih := leVal_lt r fun y hy => h y (List.mem_cons_of_mem _ hy)
    rw [leVal, List.length_cons, Nat.pow_succ]
    omega
theorem piece (N a t : Nat) (h : a % 8 + t ≤ 8) : N / 256 ^ (a / 8) % 256 / 2 ^ (a % 8) % 2 ^ t = N / 2 ^ a % 2 ^ t := by
  have ha : 2 ^ a = 256 ^ (a / 8) * 2 ^ (a % 8) := by
    rw [show (256 : Nat) = 2 ^ 8 from rfl, ← Nat.pow_mul, ← Nat.pow_add]
    congr 1
    omega
  rw [ha, ← Nat.div_div_eq_div_mul]
  generalize N / 256 ^ (a / 8) = Y
  have e : (256 : Nat) = 2 ^ (a % 8) * 2 ^ (8 - a % 8) := by
    rw [← Nat.pow_add, show a % 8 + (8 - a % 8) = 8 from by omega]
  rw [e, Nat.mod_mul_right_div_self]
  exact Nat.mod_mod_of_dvd _ (Nat.pow_dvd_pow 2 (by omega))
theorem join (N b k t : Nat) : N / 2 ^ b % 2 ^ (k + t) = N / 2 ^ b % 2 ^ k + N / 2 ^ (b + k) % 2 ^ t * 2 ^ k := by
  rw [Nat.pow_add 2 k t, Nat.mod_mul, Nat.pow_add 2 b k, ← Nat.div_div_eq_div_mul, Nat.mul_comm (2 ^ k)]
/-- The numbers that bytes bear. -/
def unbitsL (N wd n : Nat) : List Int := (List.range n).map fun i => ((N / 2 ^ (wd * i) % 2 ^ wd : Nat) : Int)
def unbitsF (bs : List Int) (wd n : Nat) : Option (List Int) := if bs.length ≠ (wd * n + 7) / 8 then none else if leVal bs / 2 ^ (wd * n) ≠ 0 then none else some (unbitsL (leVal bs) wd n)
theorem tail_piece {bs : List Int} {a : Nat} (h : ∀ x ∈ bs, 0 ≤ x ∧ x < 256) (hl : bs.length = (a + 7) / 8) (h8 : 0 < a % 8) : leVal bs / 256 ^ (a / 8) % 256 / 2 ^ (a % 8) = leVal bs / 2 ^ a := by
  have h1 := leVal_lt bs h
  have ha : 2 ^ a = 256 ^ (a / 8) * 2 ^ (a % 8) := by
    rw [show (256 : Nat) = 2 ^ 8 from rfl, ← Nat.pow_mul, ← Nat.pow_add]
    congr 1
    omega
  rw [hl, show (a + 7) / 8 = a / 8 + 1 from by omega, Nat.pow_succ] at h1
  rw [ha, ← Nat.div_div_eq_div_mul]
  have h2 : leVal bs / 256 ^ (a / 8) < 256 := by
    rw [Nat.div_lt_iff_lt_mul (Nat.pow_pos (by decide)), Nat.mul_comm]
    exact h1
  rw [Nat.mod_eq_of_lt h2]
theorem tail_none {bs : List Int} {a : Nat} (h : ∀ x ∈ bs, 0 ≤ x ∧ x < 256) (hl : bs.length = (a + 7) / 8) (h8 : a % 8 = 0) : leVal bs / 2 ^ a = 0 := by
  have h1 := leVal_lt bs h
  have ha : 2 ^ a = 256 ^ (a / 8) := by
    rw [show (256 : Nat) = 2 ^ 8 from rfl, ← Nat.pow_mul]
    congr 1
    omega
  rw [hl, show (a + 7) / 8 = a / 8 from by omega] at h1
  rw [ha]
  exact Nat.div_eq_of_lt h1
def rBytes (s : RSt) (n : Int) : List Int × RSt := if s.e ≠ 0 then ([], s) else if n < 0 ∨ n > (s.bs.length : Int) - s.at' then ([], { s with e := 20 }) else ((s.bs.drop s.at').take n.toNat, { s with at' := s.at' + n.toNat })
end Go.Proofs.Ytimlgpfcgklddaa
namespace Go.Proofs.Ytimlgpfcgklddaa.P
open Go.RowKit Go.Shelf Go.Proofs.YtimlgpfcgklddaaW.PrintWords Go.Proofs.YtimlgpfcgklddaaW.PrintLast Go.Proofs.YtimlgpfcgklddaaW.PrintMore
set_option linter.unusedVariables false
set_option linter.unusedSimpArgs false
theorem C_take {w : World} {A : Option Addr} {bs : List Int} {k : IntKind} (h : (Kd.int k).C w A bs.length bs) (n : Nat) (hn : n ≤ bs.length) : (Kd.int k).C w A (bs.take n).length (bs.take n) := by
  rcases A with _ | ad
  · have h0 : bs.length = 0 := by
      rcases Nat.eq_zero_or_pos bs.length with h0 | h0
      · exact h0
      · obtain ⟨ad, e, _⟩ := h.2.2 h0
        cases e
    have e : bs = [] := List.eq_nil_of_length_eq_zero h0
    subst e
    rw [List.take_nil]
    exact h
  · have h1 := C_cut h 0 n (by omega)
    rw [List.drop_zero, Nat.zero_mul] at h1
    rw [List.length_take, Nat.min_eq_left hn]
    exact h1
set_option maxRecDepth 100000 in
set_option maxHeartbeats 1000000 in
theorem Bytes1_no (A : Option Addr) (m c : Nat) (B1 : Nat) (n : Int) (w : World) (h1 : w.cell? ⟨B1, 0, none⟩ = some (.int .i64 n)) (hn : n < 0 ∨ n > m) :
    Calls Try.prog 84 #[.slice A m c, .pointer (some ⟨B1, 0, none⟩)] w fun e w' => e = .returned (.tuple #[.slice none 0 0, .int .i64 (-1)]) ∧ w' = w := by
  by_cases h0 : n < 0
  · go_enter Try.func84, Try.ntmps84
    go_wp2
    go_ret2
    exact ⟨rfl, rfl⟩
  · have hgt : n > m := by omega
    go_enter Try.func84, Try.ntmps84
    go_wp2
    go_ret2
    exact ⟨rfl, rfl⟩
set_option maxRecDepth 100000 in
set_option maxHeartbeats 1000000 in
theorem Bytes1_yes (A : Option Addr) (bs : List Int) (c : Nat) (B1 : Nat) (n : Nat) (w : World) (h : (Kd.int .u8).C w A bs.length bs) (hc : bs.length ≤ c) (hl : bs.length ≤ 140737488355328) (h1 : w.cell? ⟨B1, 0, none⟩ = some (.int .i64 n)) (hB : B1 < w.heap.size) (hn : n ≤ bs.length) :
    Calls Try.prog 84 #[.slice A bs.length c, .pointer (some ⟨B1, 0, none⟩)] w fun e w' => ∃ v, e = .returned (.tuple #[v, .int .i64 n]) ∧ Lx .u8 5 w' w.heap.size v (bs.take n) ∧ Below w.heap.size w w' := by
  have HT := Aside0.mk (C_take h n hn)
  have hlt : (bs.take n).length = n := by rw [List.length_take]; omega
  obtain ⟨xs, hxs⟩ : ∃ xs, bs.take n = xs := ⟨_, rfl⟩
  rw [hxs] at HT hlt ⊢
  subst hlt
  clear h hxs
  have H1 := Aside0.mk h1
  go_enter Try.func84, Try.ntmps84
  go_wp2
  go_region_with (first | (go_at_call 79; ((with_reducible refine (Clone_calls A xs c _ (Kd.C_drew HT.out) (by omega) (by omega)).mono ?_)); rintro e w1 ⟨v1, rfl, ho, hb⟩; obtain ⟨A1, c1, rfl, hc1, hC1⟩ := ho.reads; have HM1 := Aside0.mk (Kd.C_max hC1); have HO := Aside0.mk ho; have hk1 : w1.cell? ⟨B1, 0, none⟩ = some (.int .i64 (xs.length : Int)) := (hb.cell (show (⟨B1, 0, none⟩ : Addr).block < w.drew.heap.size from hB)).trans H1.out; have HB := Aside0.mk hb; clear ho hb hC1) | (go_at_call 45; ((with_reducible refine (Clip_calls A1 xs.length c1 _ hc1 HM1.out).mono ?_)); rintro e w2 ⟨rfl, rfl⟩))
  all_goals (
    go_wp2
    go_ret2
    exact ⟨_, rfl, Lax.clip HO.out, (Below.drew (Below.refl _ w)).trans HB.out⟩)
set_option maxRecDepth 100000 in
set_option maxHeartbeats 1000000 in
theorem takeBytes_calls (R base B1 : Nat) (s : RSt) (n : Int) (w : World) (h : Rdr w R base s) (h1 : w.cell? ⟨B1, 0, none⟩ = some (.int .i64 n)) (hB : B1 < w.heap.size) :
    Calls Try.prog 83 #[.pointer (some ⟨R, 0, none⟩), .func (.func 84) #[] #[.pointer (some ⟨B1, 0, none⟩)]] w fun e w' => ∃ v, e = .returned v ∧ Lx .u8 5 w' w.heap.size v (rBytes s n).1 ∧ Rdr w' R base (rBytes s n).2 ∧ w.grownBy w' (some R) := by
  have HH := Aside0.mk h
  obtain ⟨v, hb, hx⟩ := h.v
  obtain ⟨hle, hlen, hrange⟩ := h.ok
  have HR := Aside0.mk hrange
  obtain ⟨bs, at0, e0⟩ := s
  dsimp only at *
  have hc0 := blk_cell hb 0
  have hc1 := blk_cell hb 1
  have hc2 := blk_cell hb 2
  have hf1 := blk_frozen hb 1
  have hf2 := blk_frozen hb 2
  unfold rBytes
  dsimp only
  have HBK := Aside0.mk hb
  clear h
  by_cases he : e0 = 0
  · subst he
    rw [if_neg (by decide)]
    obtain ⟨A, c, rfl, hc, hC⟩ := hx.reads
    have H1 := Aside0.mk h1
    clear hx hb hrange h1
    by_cases hbad : n < 0 ∨ n > (bs.length : Int) - at0
    · rw [if_pos hbad]
      have HS := Aside0.mk (Bytes1_no (if c = at0 then A else Option.map (fun x => x.add at0) A) (bs.length - at0) (c - at0) B1 n w.drew H1.out (by omega))
      clear hbad hC
      go_enter Try.func83, Try.ntmps83
      go_wp2
      refine wp_region_still_lit (by kernel_rfl) (by kernel_rfl) ?_
      repeat still_step
      still_call HS.out
      repeat still_step
      refine wpStill_nil ?_
      go_wp2
      all_goals go_ret
      all_goals exact ⟨_, rfl, Lx.nil _ _ _ _, (HH.out.drew).put2 20, below_set (Below.drew (Below.refl _ _)) R 2 _⟩
    · rw [if_neg hbad]
      obtain ⟨n, rfl⟩ := Int.eq_ofNat_of_zero_le (show 0 ≤ n by omega)
      have hS := Bytes1_yes (if c = at0 then A else Option.map (fun x => x.add at0) A) (bs.drop at0) (c - at0) B1 n w.drew (Kd.C_drew (C_from hC hc at0 hle)) (by rw [List.length_drop]; omega) (by rw [List.length_drop]; omega) H1.out hB (by rw [List.length_drop]; omega)
      rw [List.length_drop] at hS
      have hle2 : at0 + n ≤ bs.length := by omega
      obtain ⟨A', hA'⟩ : ∃ A', (if c = at0 then A else Option.map (fun x => x.add at0) A) = A' := ⟨_, rfl⟩
      rw [hA'] at hS
      simp only [Int.toNat_natCast]
      obtain ⟨xs, hxs⟩ : ∃ xs, (bs.drop at0).take n = xs := ⟨_, rfl⟩
      rw [hxs] at hS ⊢
      have HS := Aside0.mk hS
      clear hbad hC hS hxs
      have hwa : IntKind.i64.wrap ((at0 : Int) + n) = (at0 : Int) + n := by rw [IntKind.wrap_i64]; omega
      go_enter Try.func83, Try.ntmps83
      go_wp2
      go_region_with (go_at_call 84; ((with_reducible refine HS.out.mono ?_)); rintro e w1 ⟨v1, rfl, ho, hb1⟩; obtain ⟨A1, c1, rfl, hc1, _⟩ := ho.reads; have HO := Aside0.mk ho; have hx1 := (hb1.block _ (show R < w.drew.heap.size from blk_lt HBK.out)).trans (show w.drew.heap[R]? = _ from HBK.out); have hc11 := blk_cell hx1 1; have hf11 := blk_frozen hx1 1; have HH1 := Aside0.mk (HH.out.drew.below hb1); have HB := Aside0.mk ((Below.drew (Below.refl _ w)).trans hb1); clear ho hb1 hx1)
      all_goals (
        have hna : ((at0 + n : Nat) : Int) = (at0 : Int) + n := by omega
        have h1 := HH1.out.put1 (at0 + n) hle2
        rw [hna] at h1
        have HP := Aside0.mk h1
        have hRlt := blk_lt HBK.out
        have HF : Aside0 (Lx .u8 5 (w1.setCell ⟨R, 1, none⟩ (.int .i64 ((at0 : Int) + n))) w.heap.size (.slice A1 xs.length c1) xs) := ⟨Lx.far (p := ⟨R, 1, none⟩) HO.out (fun j hj => by have h2 : w.heap.size ≤ j := Lax.base_le HO.out j hj; show j ≠ R; omega) _⟩
        clear h1
        go_wp2
        all_goals go_ret
        all_goals exact ⟨_, rfl, HF.out, HP.out, below_set HB.out R 1 _⟩)
  · rw [if_pos he]
    clear hx hb hrange
    go_enter Try.func83, Try.ntmps83
    go_wp2
    go_ret
    exact ⟨_, rfl, Lx.nil _ _ _ _, HH.out, grown_of_below (Below.refl _ _) _⟩
set_option maxRecDepth 100000 in
set_option maxHeartbeats 1000000 in
theorem Bytes_calls (R base : Nat) (s : RSt) (n : Int) (w : World) (h : Rdr w R base s) :
    Calls Try.prog 52 #[.pointer (some ⟨R, 0, none⟩), .int .i64 n] w fun e w' => ∃ v, e = .returned v ∧ Lx .u8 5 w' w.heap.size v (rBytes s n).1 ∧ Rdr w' R base (rBytes s n).2 ∧ w.grownBy w' (some R) := by
  have HH := Aside0.mk h
  clear h
  have HB : Aside0 (Below w.heap.size w (w.alloc (.cells #[.int .i64 n] 3))) := ⟨(Below.refl _ w).alloc (Nat.le_refl _) _⟩
  have HC1 : Aside0 ((w.alloc (.cells #[.int .i64 n] 3)).cell? ⟨w.heap.size, 0, none⟩ = some (.int .i64 n)) := ⟨blk_cell (blk_new w (.cells #[.int .i64 n] 3)) 0⟩
  go_enter Try.func52, Try.ntmps52
  go_wp2_with (go_at_call 83; ((with_reducible refine (takeBytes_calls R base w.heap.size s n _ (HH.out.below HB.out) HC1.out (by simp)).mono ?_)); rintro e w2 ⟨v2, rfl, ho2, hr2, hg2⟩; have HO2 := Aside0.mk ho2; have HR2 := Aside0.mk hr2; have HG2 := Aside0.mk hg2; clear ho2 hr2 hg2)
  go_ret
  exact ⟨_, rfl, Lx.lower HO2.out HB.out.size, HR2.out, grown_after HB.out HG2.out⟩
end Go.Proofs.Ytimlgpfcgklddaa.P
