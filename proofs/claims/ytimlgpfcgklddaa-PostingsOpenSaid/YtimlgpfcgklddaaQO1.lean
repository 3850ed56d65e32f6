/-
Texts of this seat, laid together: O1, C2, C3, C4.
-/
import Derived.Test.YtimlgpfcgklddaaQF97
import Derived.Test.YtimlgpfcgklddaaQR1
import Derived.Test.YtimlgpfcgklddaaQC1
namespace Go.Proofs.Ytimlgpfcgklddaa
open Go.RowKit Go.Proofs.YtimlgpfcgklddaaW.PrintWords Go.Proofs.YtimlgpfcgklddaaW.PrintLast
set_option linter.unusedVariables false
def ldU : List Int → Int
  | [] => 0
  | c :: r => ldU r * 128 % 18446744073709551616 + c % 128
/-- How many bytes lead, each with its top bit. -/
def stopN : List Int → Nat
  | [] => 0
  | c :: r => if c > 127 then stopN r + 1 else 0
/-- The number at the head of bytes, and how many bytes it has (0: there is none). -/
def numR (bs : List Int) : Int × Int :=
  if bs.length ≤ stopN bs ∨ 9 < stopN bs then (0, 0) else
  if uv (ldU (bs.take (stopN bs + 1))) = bs.take (stopN bs + 1) then (ldU (bs.take (stopN bs + 1)), (stopN bs : Int) + 1) else (0, 0)
theorem ldU_range : ∀ (l : List Int), 0 ≤ ldU l ∧ ldU l < 18446744073709551616
  | [] => by decide
  | c :: r => by unfold ldU; omega
theorem ldU_uvn (u : Nat) : u < 18446744073709551616 → ldU (uvn u) = u := by
  induction u using Nat.strongRecOn with
  | _ u ih =>
    intro h
    by_cases h7 : 127 < u
    · rw [uvn_big h7, ldU, ih (u / 128) (by omega) (by omega)]
      omega
    · rw [uvn_small (by omega), ldU, ldU]
      omega
theorem stop_uvn (u : Nat) (rest : List Int) : stopN (uvn u ++ rest) + 1 = (uvn u).length := by
  induction u using Nat.strongRecOn with
  | _ u ih =>
    by_cases h7 : 127 < u
    · rw [uvn_big h7, List.cons_append, stopN, if_pos (by omega), List.length_cons, ih (u / 128) (by omega)]
    · rw [uvn_small (by omega), List.cons_append, stopN, if_neg (by omega)]
      rfl
theorem stop_le : ∀ (l : List Int), stopN l ≤ l.length
  | [] => Nat.le_refl _
  | c :: r => by
    have := stop_le r
    unfold stopN
    split
    · rw [List.length_cons]; omega
    · omega
/-- A number's form is read back. -/
theorem numR_uv {u : Int} (h0 : 0 ≤ u) (h1 : u < 18446744073709551616) (rest : List Int) : numR (uv u ++ rest) = (u, ((uv u).length : Int)) := by
  have hs := stop_uvn u.toNat rest
  have hl := uv_len h1
  have hu : ldU (uv u) = u := by unfold uv; rw [ldU_uvn _ (by omega)]; omega
  unfold numR
  have e : stopN (uv u ++ rest) + 1 = (uv u).length := hs
  have et : (uv u ++ rest).take (stopN (uv u ++ rest) + 1) = uv u := by rw [e, List.take_left]
  rw [if_neg (by rw [List.length_append]; omega), et, hu, if_pos rfl]
  congr 1
  omega
theorem numR_facts (bs : List Int) : 0 ≤ (numR bs).1 ∧ (numR bs).1 < 18446744073709551616 ∧ 0 ≤ (numR bs).2 ∧ (numR bs).2 ≤ 10 ∧ (numR bs).2 ≤ bs.length := by
  unfold numR
  split
  · refine ⟨?_, ?_, ?_, ?_, ?_⟩ <;> simp
  · split
    · have := ldU_range (bs.take (stopN bs + 1))
      refine ⟨this.1, this.2, ?_, ?_, ?_⟩ <;> simp only [] <;> omega
    · refine ⟨?_, ?_, ?_, ?_, ?_⟩ <;> simp
theorem or_seven {x c : Int} (hx : 0 ≤ x) (hx2 : x < 18446744073709551616) (hc : 0 ≤ c) : Go.bits .or .u64 (IntKind.u64.wrap (x * 128)) (IntKind.u64.wrap (Int.tmod c 128)) = x * 128 % 18446744073709551616 + c % 128 := by
  obtain ⟨a, rfl⟩ := Int.eq_ofNat_of_zero_le hx
  obtain ⟨b, rfl⟩ := Int.eq_ofNat_of_zero_le hc
  have e1 : IntKind.u64.wrap ((a : Int) * 128) = ((a % 144115188075855872 * 2 ^ 7 : Nat) : Int) := by rw [wrap_u64]; omega
  have e2 : IntKind.u64.wrap (Int.tmod (b : Int) 128) = ((b % 128 : Nat) : Int) := by
    rw [Int.tmod_eq_emod_of_nonneg (by omega), wrap_u64]; omega
  have h5 := (bits_nat .u64 64 (Nat.le_refl _) (fun n h0 h1 => by rw [wrap_u64]; omega) (a % 144115188075855872 * 2 ^ 7) (b % 128) (by omega) (by omega)).2
  rw [Nat.or_comm, or_low (show b % 128 < 2 ^ 7 by omega)] at h5
  rw [e1, e2, h5]
  omega
theorem num_l2 (bs form : List Int) (n u : Int) (hl : bs.length ≤ 140737488355328) (hf : form.length ≤ bs.length) (hn : -1 ≤ n ∧ n ≤ 140737488355328) : ∀ (d j : Nat), j + d = form.length → Ev (fun k => P.lecternref02_number.l2 k bs n u form j) (if form.drop j = (bs.take form.length).drop j then (u, n + 1) else (0, 0))
  | 0, j, h => by
    rw [List.drop_eq_nil_of_le (by omega), List.drop_eq_nil_of_le (by rw [List.length_take]; omega), if_pos rfl]
    refine ev1 (f := fun _ => some (u, n + 1)) (fun k => ?_) (Ev.now _)
    rw [P.lecternref02_number.l2, if_neg (by omega), w64 (by omega) (by omega)]
  | d + 1, j, h => by
    have ih := num_l2 bs form n u hl hf hn d (j + 1) (by omega)
    have e1 := rdd form j (by omega)
    have e2 := rdd (bs.take form.length) j (by rw [List.length_take]; omega)
    have e3 : rd (bs.take form.length) (j : Int) = rd bs (j : Int) := by
      unfold rd
      rw [Int.toNat_natCast, List.getD_eq_getElem?_getD, List.getD_eq_getElem?_getD, List.getElem?_take, if_pos (by omega)]
    rw [e1, e2, e3]
    by_cases he : rd form j = rd bs j
    · rw [he]
      simp only [List.cons.injEq, true_and]
      refine ev1 (fun k => ?_) ih
      rw [P.lecternref02_number.l2, if_pos (by omega), if_pos (by omega), if_pos (by omega), if_pos he, w64 (by omega) (by omega)]
      rfl
    · rw [if_neg (by intro e; injection e with e _; exact he e)]
      refine ev1 (f := fun _ => some (0, 0)) (fun k => ?_) (Ev.now _)
      rw [P.lecternref02_number.l2, if_pos (by omega), if_pos (by omega), if_pos (by omega), if_neg he]
theorem num_l1 (bs : List Int) (n : Nat) (hn : n < bs.length) (h9 : n ≤ 9) (hl : bs.length ≤ 140737488355328) (hb : ∀ x ∈ bs, 0 ≤ x ∧ x < 256) : ∀ (d : Nat), d ≤ n + 1 → Ev (fun k => P.lecternref02_number.l1 k bs n (ldU ((bs.take (n + 1)).drop d)) ((d : Int) - 1)) (if uv (ldU (bs.take (n + 1))) = bs.take (n + 1) then (ldU (bs.take (n + 1)), (n : Int) + 1) else (0, 0))
  | 0, _ => by
    rw [List.drop_zero]
    have hr := ldU_range (bs.take (n + 1))
    obtain ⟨u, hu⟩ : ∃ u, ldU (bs.take (n + 1)) = u := ⟨_, rfl⟩
    rw [hu] at hr ⊢
    refine ev1 (fun k => ?_) (Ev.bind (g := fun k => P.lecternref02_Uint.f k u) (f := fun k t => if (t.length : Int) = wrap64 ((n : Int) + 1) then P.lecternref02_number.l2 k bs n u t 0 else some (0, 0)) (uint_ev u hr.1 hr.2) ?_)
    · rw [P.lecternref02_number.l1, if_neg (by omega)]
    · rw [w64 (x := (n : Int) + 1) (by omega) (by omega)]
      by_cases hle : (uv u).length = n + 1
      · have h2 := num_l2 bs (uv u) n u hl (by omega) (by omega) (uv u).length 0 (by omega)
        rw [List.drop_zero, List.drop_zero, hle] at h2
        refine Ev.congr (fun k => ?_) h2
        rw [if_pos (by omega)]
        rfl
      · rw [if_neg (fun e => hle (by rw [e, List.length_take]; omega))]
        refine Ev.congr (f := fun _ => some (0, 0)) (fun k => ?_) (Ev.now _)
        rw [if_neg (by omega)]
  | d + 1, h => by
    have ih := num_l1 bs n hn h9 hl hb d (by omega)
    have e1 := rdd (bs.take (n + 1)) d (by rw [List.length_take]; omega)
    have e3 : rd (bs.take (n + 1)) (d : Int) = rd bs (d : Int) := by
      unfold rd
      rw [Int.toNat_natCast, List.getD_eq_getElem?_getD, List.getD_eq_getElem?_getD, List.getElem?_take, if_pos (by omega)]
    rw [e1, e3, ldU] at ih
    have hr := ldU_range ((bs.take (n + 1)).drop (d + 1))
    have hc : 0 ≤ rd bs (d : Int) := by
      unfold rd
      rw [Int.toNat_natCast, List.getD_eq_getElem?_getD, List.getElem?_eq_getElem (by omega)]
      exact (hb _ (List.getElem_mem _)).1
    refine ev1 (fun k => ?_) ih
    have e5 : (((d + 1 : Nat) : Int) - 1) = (d : Int) := by omega
    rw [e5, P.lecternref02_number.l1, if_pos (by omega), if_pos (by omega), if_pos (by omega), or_seven hr.1 hr.2 hc, w64 (by omega) (by omega)]
theorem stop_drop : ∀ (bs : List Int) (i : Nat), i ≤ stopN bs → stopN bs = i + stopN (bs.drop i)
  | bs, 0, h => by simp
  | [], i + 1, h => by simp [stopN] at h
  | c :: r, i + 1, h => by
    have e : stopN (c :: r) = if c > 127 then stopN r + 1 else 0 := rfl
    rw [e] at h ⊢
    rw [List.drop_succ_cons]
    by_cases hc : c > 127
    · rw [if_pos hc] at h ⊢
      have := stop_drop r i (by omega)
      omega
    · rw [if_neg hc] at h; omega
theorem num_l0 (bs : List Int) (hl : bs.length ≤ 140737488355328) (hb : ∀ x ∈ bs, 0 ≤ x ∧ x < 256) : ∀ (d i : Nat), i + d = bs.length → i ≤ stopN bs → Ev (fun k => P.lecternref02_number.l0 k bs i) (numR bs)
  | 0, i, h, hi => by
    have hs := stop_le bs
    have h1 : stopN bs = bs.length := by omega
    unfold numR
    rw [if_pos (by omega)]
    refine ev1 (f := fun k => P.lecternref02_number.j1 k bs i) (fun k => ?_) (ev1 (f := fun k => P.lecternref02_number.j2 k bs i true) (fun k => ?_) (ev1 (f := fun _ => some (0, 0)) (fun k => ?_) (Ev.now _)))
    · rw [P.lecternref02_number.l0, if_neg (by omega)]
    · rw [P.lecternref02_number.j1, if_pos (by omega)]
    · rw [P.lecternref02_number.j2, if_pos rfl]
  | d + 1, i, h, hi => by
    have e1 := rdd bs i (by omega)
    have e2 := stop_drop bs i hi
    rw [e1, stopN] at e2
    by_cases hc : rd bs i > 127
    · rw [if_pos hc] at e2
      have ih := num_l0 bs hl hb d (i + 1) (by omega) (by omega)
      refine ev1 (fun k => ?_) ih
      rw [P.lecternref02_number.l0, if_pos (by omega), if_pos (by omega), if_pos hc, w64 (by omega) (by omega)]
      rfl
    · rw [if_neg hc] at e2
      have hsn : stopN bs = i := by omega
      unfold numR
      rw [hsn]
      by_cases h9 : 9 < i
      · rw [if_pos (by omega)]
        refine ev1 (f := fun k => P.lecternref02_number.j1 k bs i) (fun k => ?_) (ev1 (f := fun k => P.lecternref02_number.j2 k bs i true) (fun k => ?_) (ev1 (f := fun _ => some (0, 0)) (fun k => ?_) (Ev.now _)))
        · rw [P.lecternref02_number.l0, if_pos (by omega), if_pos (by omega), if_neg hc]
        · rw [P.lecternref02_number.j1, if_neg (by omega), decide_eq_true (by omega)]
        · rw [P.lecternref02_number.j2, if_pos rfl]
      · rw [if_neg (by omega)]
        have h2 := num_l1 bs i (by omega) (by omega) hl hb (i + 1) (Nat.le_refl _)
        rw [List.drop_eq_nil_of_le (by rw [List.length_take]; omega), ldU, show (((i + 1 : Nat) : Int) - 1) = (i : Int) from by omega] at h2
        refine ev1 (f := fun k => P.lecternref02_number.j1 k bs i) (fun k => ?_) (ev1 (f := fun k => P.lecternref02_number.j2 k bs i false) (fun k => ?_) (ev1 (fun k => ?_) h2))
        · rw [P.lecternref02_number.l0, if_pos (by omega), if_pos (by omega), if_neg hc]
        · rw [P.lecternref02_number.j1, if_neg (by omega), decide_eq_false (by omega)]
        · rw [P.lecternref02_number.j2, if_neg (by decide)]
theorem num_ev (bs : List Int) (hl : bs.length ≤ 140737488355328) (hb : ∀ x ∈ bs, 0 ≤ x ∧ x < 256) : Ev (fun k => P.lecternref02_number.f k bs) (numR bs) := num_l0 bs hl hb bs.length 0 (by omega) (Nat.zero_le _)
open Go.RowKit
/-- A reader: bytes, the place, the error. -/
structure RSt where
  bs : List Int
  at' : Nat
  e : Int
structure RSt.ok (s : RSt) : Prop where
  le : s.at' ≤ s.bs.length
  len : s.bs.length ≤ 140737488355328
  range : ∀ x ∈ s.bs, 0 ≤ x ∧ x < 256
/-- The reader at a block. -/
structure Rdr (w : World) (R base : Nat) (s : RSt) : Prop where
  v : ∃ v, w.heap[R]? = some (.cells #[v, .int .i64 (s.at' : Int), .int .i64 s.e] 125 (0, 0)) ∧ Lx .u8 5 w base v s.bs
  ok : s.ok
theorem Rdr.lt {w : World} {R base : Nat} {s : RSt} (h : Rdr w R base s) : R < w.heap.size := by
  obtain ⟨v, h1, _⟩ := h.v
  exact (Array.getElem?_eq_some_iff.1 h1).1
theorem Rdr.grown {w w' : World} {R base : Nat} {s : RSt} (h : Rdr w R base s) {row : Option Nat} (hg : w.grownBy w' row) (hR : some R ≠ row) (hne : ∀ j, row = some j → ∀ cells, w.heap[j]? ≠ some (.cells cells 5 (0, 0))) : Rdr w' R base s := by
  obtain ⟨v, h1, h2⟩ := h.v
  refine ⟨⟨v, (hg.block R h.lt hR).trans h1, Lx.grown h2 hg (fun j hj e => ?_)⟩, h.ok⟩
  obtain ⟨cells, hc⟩ := Lax.typed h2 j hj
  exact hne j e.symm cells hc
theorem Rdr.below {w w' : World} {R base : Nat} {s : RSt} (h : Rdr w R base s) (hb : Below w.heap.size w w') : Rdr w' R base s := by
  obtain ⟨v, h1, h2⟩ := h.v
  exact ⟨⟨v, (hb.block R h.lt).trans h1, Lx.below h2 hb⟩, h.ok⟩
theorem Rdr.drew {w : World} {R base : Nat} {s : RSt} (h : Rdr w R base s) : Rdr w.drew R base s := h.below (Below.drew (Below.refl _ _))
end Go.Proofs.Ytimlgpfcgklddaa
namespace Go.Proofs.Ytimlgpfcgklddaa.P
open Go.RowKit Go.Shelf Go.Proofs.YtimlgpfcgklddaaW.PrintWords Go.Proofs.YtimlgpfcgklddaaW.PrintLast Go.Proofs.YtimlgpfcgklddaaW.PrintMore
set_option linter.unusedVariables false
set_option linter.unusedSimpArgs false
set_option maxRecDepth 100000 in
set_option maxHeartbeats 1000000 in
theorem NewReader_calls (A : Option Addr) (bs : List Int) (c : Nat) (w : World) (h : (Kd.int .u8).C w A bs.length bs) (hc : bs.length ≤ c) (hl : bs.length ≤ 140737488355328) (hr : ∀ x ∈ bs, 0 ≤ x ∧ x < 256) :
    Calls Try.prog 50 #[.slice A bs.length c] w fun e w' => ∃ R, e = .returned (.pointer (some ⟨R, 0, none⟩)) ∧ w.heap.size ≤ R ∧ Rdr w' R w.heap.size ⟨bs, 0, 0⟩ ∧ Below w.heap.size w w' := by
  have H := Aside0.mk h
  have HR := Aside0.mk hr
  clear h hr
  go_enter Try.func50, Try.ntmps50
  go_wp2_with (go_at_call 79; ((with_reducible refine (Clone_calls _ _ _ _ H.out hc hl).mono ?_)); rintro e w1 ⟨v1, rfl, ho, hb⟩; obtain ⟨A1, c1, rfl, _, _⟩ := ho.reads; have HO := Aside0.mk ho; have HB := Aside0.mk hb; clear ho hb)
  go_ret
  have h1 := HB.out.size
  exact ⟨_, rfl, h1, ⟨⟨_, blk_new w1 _, Lx.alloc HO.out _⟩, ⟨Nat.zero_le _, hl, HR.out⟩⟩, HB.out.alloc h1 _⟩
set_option maxRecDepth 100000 in
set_option maxHeartbeats 1000000 in
theorem Err_calls (R base : Nat) (s : RSt) (w : World) (h : Rdr w R base s) :
    Calls Try.prog 54 #[.pointer (some ⟨R, 0, none⟩)] w fun e w' => e = .returned (.int .i64 s.e) ∧ w' = w := by
  obtain ⟨v, h1, h2⟩ := h.v
  have hc0 := blk_cell h1 0
  have hc2 := blk_cell h1 2
  go_enter Try.func54, Try.ntmps54
  go_wp2
  go_ret
  exact ⟨rfl, rfl⟩
set_option maxRecDepth 100000 in
set_option maxHeartbeats 1000000 in
theorem Left_calls (R base : Nat) (s : RSt) (w : World) (h : Rdr w R base s) :
    Calls Try.prog 88 #[.pointer (some ⟨R, 0, none⟩)] w fun e w' => e = .returned (.int .i64 ((s.bs.length : Int) - s.at')) ∧ Below w.heap.size w w' := by
  obtain ⟨v, h1, h2⟩ := h.v
  obtain ⟨hle, hlen, _⟩ := h.ok
  obtain ⟨A, c, rfl, hc, _⟩ := h2.reads
  clear h2
  obtain ⟨bs, at0, e⟩ := s
  have hc0 := blk_cell h1 0
  have hc1 := blk_cell h1 1
  dsimp only at *
  go_enter Try.func88, Try.ntmps88
  go_wp2
  have hw : IntKind.i64.wrap ((bs.length : Int) - at0) = (bs.length : Int) - at0 := by rw [IntKind.wrap_i64]; omega
  go_still (by kernel_rfl)
  go_wp2
  go_ret
  exact ⟨rfl, Below.drew (Below.refl _ _)⟩
def rEnd (s : RSt) : RSt := if s.e = 0 ∧ s.at' < s.bs.length then { s with e := 20 } else s
theorem _root_.Go.Proofs.Ytimlgpfcgklddaa.Rdr.put2 {w : World} {R base : Nat} {s : RSt} (h : Rdr w R base s) (e : Int) : Rdr (w.setCell ⟨R, 2, none⟩ (.int .i64 e)) R base { s with e := e } := by
  obtain ⟨v, h1, h2⟩ := h.v
  refine ⟨⟨v, blk_put h1 2 _ rfl, Lx.far (p := ⟨R, 2, none⟩) h2 (fun j hj ej => ?_) _⟩, ⟨h.ok.le, h.ok.len, h.ok.range⟩⟩
  obtain ⟨cells, hc⟩ := Lax.typed h2 j hj
  rw [ej] at hc
  rw [show (Addr.block ⟨R, 2, none⟩) = R from rfl, h1] at hc
  injection hc with hc
  injection hc with _ hc
  exact absurd hc (by decide)
theorem _root_.Go.Proofs.Ytimlgpfcgklddaa.Rdr.put1 {w : World} {R base : Nat} {s : RSt} (h : Rdr w R base s) (n : Nat) (hn : n ≤ s.bs.length) : Rdr (w.setCell ⟨R, 1, none⟩ (.int .i64 (n : Int))) R base { s with at' := n } := by
  obtain ⟨v, h1, h2⟩ := h.v
  refine ⟨⟨v, blk_put h1 1 _ rfl, Lx.far (p := ⟨R, 1, none⟩) h2 (fun j hj ej => ?_) _⟩, ⟨hn, h.ok.len, h.ok.range⟩⟩
  obtain ⟨cells, hc⟩ := Lax.typed h2 j hj
  rw [ej] at hc
  rw [show (Addr.block ⟨R, 1, none⟩) = R from rfl, h1] at hc
  injection hc with hc
  injection hc with _ hc
  exact absurd hc (by decide)
theorem grownBy_set (w : World) (R i : Nat) (u : Value) : w.grownBy (w.setCell ⟨R, i, none⟩ u) (some R) :=
  ⟨rfl, rfl, rfl, by simp [World.setCell], fun k _ hne => Below.heap_setCell w _ _ k (fun e => hne (by rw [e]))⟩
theorem below_set {w w1 : World} (h : Below w.heap.size w w1) (R i : Nat) (u : Value) : w.grownBy (w1.setCell ⟨R, i, none⟩ u) (some R) :=
  ⟨h.os, h.tape, h.output, by have := h.size; simp [World.setCell]; exact this, fun k hk hne => (Below.heap_setCell w1 _ _ k (fun e => hne (by rw [e]))).trans (h.block k hk)⟩
set_option maxRecDepth 100000 in
set_option maxHeartbeats 1000000 in
theorem End_calls (R base : Nat) (s : RSt) (w : World) (h : Rdr w R base s) :
    Calls Try.prog 55 #[.pointer (some ⟨R, 0, none⟩)] w fun e w' => e = .returned (.int .i64 (rEnd s).e) ∧ Rdr w' R base (rEnd s) ∧ w.grownBy w' (some R) := by
  obtain ⟨v, h1, h2⟩ := h.v
  have hle := h.ok.le
  have HH := Aside0.mk h
  have hc0 := blk_cell h1 0
  have hc1 := blk_cell h1 1
  have hc2 := blk_cell h1 2
  have hf2 := blk_frozen h1 2
  clear h h2
  obtain ⟨bs, at0, e0⟩ := s
  dsimp only at *
  have HB1 := Aside0.mk h1
  by_cases he : e0 = 0
  · subst he
    by_cases hlt : at0 < bs.length
    · have hr : rEnd ⟨bs, at0, 0⟩ = ⟨bs, at0, 20⟩ := if_pos ⟨rfl, hlt⟩
      rw [hr]
      have hlt2 : 0 < (bs.length : Int) - at0 := by omega
      go_enter Try.func55, Try.ntmps55
      go_wp2_with (first | (go_at_call 88; ((with_reducible refine (Left_calls _ _ _ _ HH.out).mono ?_)); rintro e w1 ⟨rfl, hb⟩; have HH1 := Aside0.mk (HH.out.below hb); have hx1 := (hb.block _ (blk_lt HB1.out)).trans HB1.out; have hc21 := blk_cell hx1 2; have hf21 := blk_frozen hx1 2; have HB2 := Aside0.mk hb; clear hb hx1) | (go_at_call 54; ((with_reducible refine (Err_calls R base ⟨bs, at0, 20⟩ _ (HH1.out.put2 20)).mono ?_)); rintro e w2 ⟨rfl, rfl⟩))
      go_ret
      exact ⟨rfl, HH1.out.put2 20, below_set HB2.out R 2 _⟩
    · have hr : rEnd ⟨bs, at0, 0⟩ = ⟨bs, at0, 0⟩ := if_neg (fun h => hlt h.2)
      rw [hr]
      have hlt2 : (bs.length : Int) - at0 ≤ 0 := by omega
      go_enter Try.func55, Try.ntmps55
      go_wp2_with (first | (go_at_call 88; ((with_reducible refine (Left_calls _ _ _ _ HH.out).mono ?_)); rintro e w1 ⟨rfl, hb⟩; have HH1 := Aside0.mk (HH.out.below hb); have hx1 := (hb.block _ (blk_lt HB1.out)).trans HB1.out; have hc21 := blk_cell hx1 2; have hf21 := blk_frozen hx1 2; have HB2 := Aside0.mk hb; clear hb hx1) | (go_at_call 54; ((with_reducible refine (Err_calls R base _ _ HH1.out).mono ?_)); rintro e w2 ⟨rfl, rfl⟩))
      go_ret
      exact ⟨rfl, HH1.out, grown_of_below HB2.out _⟩
  · have hr : rEnd ⟨bs, at0, e0⟩ = ⟨bs, at0, e0⟩ := if_neg (fun h => he h.1)
    rw [hr]
    go_enter Try.func55, Try.ntmps55
    go_wp2_with (go_at_call 54; ((with_reducible refine (Err_calls R base _ _ HH.out).mono ?_)); rintro e w2 ⟨rfl, rfl⟩)
    go_ret
    exact ⟨rfl, HH.out, grown_of_below (Below.refl _ _) _⟩
end Go.Proofs.Ytimlgpfcgklddaa.P
namespace Go.Proofs.Ytimlgpfcgklddaa
open Go.RowKit
/-- A size at the head of bytes. -/
def sizeF (bs : List Int) (most : Int) : Int × Int := if (numF bs).2 < 0 ∨ most < 0 ∨ (numF bs).1 > most then (0, -1) else numF bs
/-- What a call that takes x of n bytes (below 0: an error) answers and leaves. -/
def took (s : RSt) (r : Int × Int) : Int × RSt := if s.e ≠ 0 then (0, s) else if r.2 < 0 then (0, { s with e := 20 }) else (r.1, { s with at' := s.at' + r.2.toNat })
def rSize (s : RSt) (most : Int) : Int × RSt := took s (sizeF (s.bs.drop s.at') most)
theorem numGo_range : ∀ (l : List Int) (i : Nat) (n : Int), (∀ x ∈ l, 0 ≤ x ∧ x < 256) → i + l.length ≤ 10 → 0 ≤ n → n < 2 ^ (7 * i) → 0 ≤ (numGo l i n).1 ∧ (numGo l i n).1 < 18446744073709551616 ∧ -1 ≤ (numGo l i n).2 ∧ (numGo l i n).2 ≤ i + l.length
  | [], i, n, _, _, _, _ => by simp only [numGo]; omega
  | c :: r, i, n, h, hl, h0, h1 => by
    have hc := h c (List.mem_cons_self ..)
    rw [List.length_cons] at hl ⊢
    have h2 : (2 : Int) ^ (7 * (i + 1)) = 128 * 2 ^ (7 * i) := by rw [Nat.mul_add, Int.pow_add]; omega
    have hp := pow7 (i := i) (by omega)
    have hq : (0 : Int) < 2 ^ (7 * i) := Int.lt_of_le_of_lt h0 h1
    have h3 : 0 ≤ c % 128 * 2 ^ (7 * i) := Int.mul_nonneg (by omega) (by omega)
    have h4 : c % 128 * 2 ^ (7 * i) ≤ 127 * 2 ^ (7 * i) := Int.mul_le_mul_of_nonneg_right (by omega) (by omega)
    rw [numGo]
    split
    · refine ⟨?_, ?_, ?_, ?_⟩ <;> simp only <;> omega
    · rename_i hbig
      split
      · split
        · refine ⟨?_, ?_, ?_, ?_⟩ <;> simp only <;> omega
        · have hlt : n + c % 128 * 2 ^ (7 * i) < 18446744073709551616 := by
            by_cases h9 : i = 9
            · have : c % 128 ≤ 1 := by omega
              subst h9
              have e : (2 : Int) ^ (7 * 9) = 9223372036854775808 := rfl
              rw [e] at h1 ⊢
              omega
            · have := hp.2 (by omega)
              have e : (2 : Int) ^ 56 = 72057594037927936 := rfl
              omega
          refine ⟨?_, ?_, ?_, ?_⟩ <;> simp only <;> omega
      · have := numGo_range r (i + 1) (n + c % 128 * 2 ^ (7 * i)) (fun x hx => h x (List.mem_cons_of_mem _ hx)) (by omega) (by omega) (by omega)
        refine ⟨this.1, this.2.1, this.2.2.1, ?_⟩
        have := this.2.2.2
        omega
theorem numF_range {bs : List Int} (h : ∀ x ∈ bs, 0 ≤ x ∧ x < 256) : 0 ≤ (numF bs).1 ∧ (numF bs).1 < 18446744073709551616 ∧ -1 ≤ (numF bs).2 ∧ (numF bs).2 ≤ bs.length := by
  have h1 := numGo_range (bs.take 10) 0 0 (fun x hx => h x (List.mem_of_mem_take hx)) (by rw [List.length_take]; omega) (by omega) (by decide)
  refine ⟨h1.1, h1.2.1, h1.2.2.1, ?_⟩
  have := h1.2.2.2
  rw [List.length_take] at this
  unfold numF
  omega
end Go.Proofs.Ytimlgpfcgklddaa
namespace Go.Proofs.Ytimlgpfcgklddaa.P
open Go.RowKit Go.Shelf Go.Proofs.YtimlgpfcgklddaaW.PrintWords Go.Proofs.YtimlgpfcgklddaaW.PrintLast Go.Proofs.YtimlgpfcgklddaaW.PrintMore
set_option linter.unusedVariables false
set_option linter.unusedSimpArgs false
theorem C_from {w : World} {A : Option Addr} {bs : List Int} {c : Nat} {k : IntKind} (h : (Kd.int k).C w A bs.length bs) (hc : bs.length ≤ c) (at0 : Nat) (hle : at0 ≤ bs.length) :
    (Kd.int k).C w (if c = at0 then A else Option.map (fun x => x.add at0) A) (bs.drop at0).length (bs.drop at0) := by
  by_cases h0 : (bs.drop at0).length = 0
  · have e : bs.drop at0 = [] := List.eq_nil_of_length_eq_zero h0
    rw [e]
    exact ⟨rfl, by simp, fun hp => absurd hp (by simp)⟩
  · rw [List.length_drop] at h0
    rw [if_neg (by omega)]
    obtain ⟨ad, e, _⟩ := h.2.2 (by omega)
    subst e
    have h1 := C_cut h at0 (bs.length - at0) (by omega)
    rw [List.take_of_length_le (by rw [List.length_drop]; omega)] at h1
    rw [List.length_drop]
    have e2 : ad.add (at0 * (Kd.int k).sz) = ad.add at0 := by
      show ad.add (at0 * 1) = _
      rw [Nat.mul_one]
    rw [e2] at h1
    exact h1
set_option maxRecDepth 100000 in
set_option maxHeartbeats 1000000 in
theorem Size1_calls (A : Option Addr) (bs : List Int) (c : Nat) (B1 B2 : Nat) (rv : Value) (most : Int) (w : World) (h : (Kd.int .u8).C w A bs.length bs) (hc : bs.length ≤ c) (hl : bs.length ≤ 140737488355328) (hr : ∀ x ∈ bs, 0 ≤ x ∧ x < 256) (h1 : w.cell? ⟨B1, 0, none⟩ = some rv) (h2 : w.cell? ⟨B2, 0, none⟩ = some (.int .i64 most)) (hm : most < 9223372036854775808) :
    Calls Try.prog 81 #[.slice A bs.length c, .pointer (some ⟨B1, 0, none⟩), .pointer (some ⟨B2, 0, none⟩)] w fun e w' => e = .returned (.tuple #[.int .i64 (sizeF bs most).1, .int .i64 (sizeF bs most).2]) ∧ w' = w := by
  have H := Aside0.mk h
  have HR := Aside0.mk hr
  have hn := numF_range hr
  obtain ⟨u, n, hun⟩ : ∃ u n, numF bs = (u, n) := ⟨_, _, rfl⟩
  have HN := number_calls rv A bs c w h hc hl hr
  unfold sizeF
  rw [hun] at hn HN ⊢
  dsimp only at hn HN ⊢
  have HU := Aside0.mk HN
  clear h hr hun HN
  obtain ⟨hn0, hn1, hn2, hn3⟩ := hn
  by_cases hneg : n < 0
  · rw [if_pos (.inl hneg)]
    go_enter Try.func81, Try.ntmps81
    go_wp2_with (go_at_call 82; ((with_reducible refine HU.out.mono ?_)); rintro e w1 ⟨rfl, rfl⟩)
    go_ret2
    exact ⟨rfl, rfl⟩
  · by_cases hm0 : most < 0
    · rw [if_pos (.inr (.inl hm0))]
      go_enter Try.func81, Try.ntmps81
      go_wp2_with (go_at_call 82; ((with_reducible refine HU.out.mono ?_)); rintro e w1 ⟨rfl, rfl⟩)
      go_ret2
      exact ⟨rfl, rfl⟩
    · have hwm : IntKind.u64.wrap most = most := by rw [wrap_u64]; omega
      by_cases hgt : u > most
      · rw [if_pos (.inr (.inr hgt))]
        go_enter Try.func81, Try.ntmps81
        go_wp2_with (go_at_call 82; ((with_reducible refine HU.out.mono ?_)); rintro e w1 ⟨rfl, rfl⟩)
        go_ret2
        exact ⟨rfl, rfl⟩
      · rw [if_neg (by omega)]
        have hwu : IntKind.i64.wrap u = u := by rw [IntKind.wrap_i64]; omega
        go_enter Try.func81, Try.ntmps81
        go_wp2_with (go_at_call 82; ((with_reducible refine HU.out.mono ?_)); rintro e w1 ⟨rfl, rfl⟩)
        go_ret2
        exact ⟨rfl, rfl⟩
set_option maxRecDepth 100000 in
set_option maxHeartbeats 1000000 in
theorem takeSize_calls (R base B1 B2 : Nat) (s : RSt) (rv : Value) (most : Int) (w : World) (h : Rdr w R base s) (h1 : w.cell? ⟨B1, 0, none⟩ = some rv) (h2 : w.cell? ⟨B2, 0, none⟩ = some (.int .i64 most)) (hm : most < 9223372036854775808) :
    Calls Try.prog 80 #[.pointer (some ⟨R, 0, none⟩), .func (.func 81) #[] #[.pointer (some ⟨B1, 0, none⟩), .pointer (some ⟨B2, 0, none⟩)]] w fun e w' => e = .returned (.int .i64 (rSize s most).1) ∧ Rdr w' R base (rSize s most).2 ∧ w.grownBy w' (some R) := by
  have HH := Aside0.mk h
  obtain ⟨v, hb, hx⟩ := h.v
  obtain ⟨hle, hlen, hrange⟩ := h.ok
  have HR := Aside0.mk hrange
  obtain ⟨bs, at0, e0⟩ := s
  dsimp only at *
  have hc0 := blk_cell hb 0
  have hc1 := blk_cell hb 1
  have hc2 := blk_cell hb 2
  have hf1 := blk_frozen hb 1
  have hf2 := blk_frozen hb 2
  unfold rSize took
  dsimp only
  clear h
  by_cases he : e0 = 0
  · subst he
    rw [if_neg (by decide)]
    obtain ⟨A, c, rfl, hc, hC⟩ := hx.reads
    have HX := Aside0.mk hx
    have H1 := Aside0.mk h1
    have H2 := Aside0.mk h2
    clear hx h1 h2 hb hrange
    have hS := Size1_calls (if c = at0 then A else Option.map (fun x => x.add at0) A) (bs.drop at0) (c - at0) B1 B2 rv most w.drew (Kd.C_drew (C_from hC hc at0 hle)) (by rw [List.length_drop]; omega) (by rw [List.length_drop]; omega) (fun x hx => HR.out x (List.mem_of_mem_drop hx)) H1.out H2.out hm
    have hr := numF_range (bs := bs.drop at0) (fun x hx => HR.out x (List.mem_of_mem_drop hx))
    rw [List.length_drop] at hS hr
    obtain ⟨x, n, hxn⟩ : ∃ x n, sizeF (bs.drop at0) most = (x, n) := ⟨_, _, rfl⟩
    have hr2 : -1 ≤ n ∧ n ≤ ((bs.length - at0 : Nat) : Int) := by
      unfold sizeF at hxn
      split at hxn
      · injection hxn with e1 e2; subst e2; omega
      · rw [hxn] at hr; exact hr.2.2
    rw [hxn] at hS ⊢
    dsimp only at hS ⊢
    have HS := Aside0.mk hS
    clear hS hr hxn hC
    obtain ⟨hn0, hn1⟩ := hr2
    by_cases hneg : n < 0
    · rw [if_pos hneg]
      go_enter Try.func80, Try.ntmps80
      go_wp2
      refine wp_region_still_lit (by kernel_rfl) (by kernel_rfl) ?_
      repeat still_step
      still_call HS.out
      repeat still_step
      refine wpStill_nil ?_
      go_wp2
      all_goals first
        | (exfalso; omega)
        | (go_ret; exact ⟨rfl, (HH.out.drew).put2 20, below_set (Below.drew (Below.refl _ _)) R 2 _⟩)
    · rw [if_neg hneg]
      have hwa : IntKind.i64.wrap ((at0 : Int) + n) = (at0 : Int) + n := by rw [IntKind.wrap_i64]; omega
      have hna : ((at0 + n.toNat : Nat) : Int) = (at0 : Int) + n := by omega
      go_enter Try.func80, Try.ntmps80
      go_wp2
      refine wp_region_still_lit (by kernel_rfl) (by kernel_rfl) ?_
      repeat still_step
      still_call HS.out
      repeat still_step
      refine wpStill_nil ?_
      have h1 := (HH.out.drew).put1 (at0 + n.toNat) (by show at0 + n.toNat ≤ bs.length; omega)
      rw [hna] at h1
      have HP := Aside0.mk h1
      clear h1
      go_wp2
      all_goals go_ret
      all_goals exact ⟨rfl, HP.out, below_set (Below.drew (Below.refl _ _)) R 1 _⟩
  · rw [if_pos he]
    clear hx h1 h2 hb hrange
    go_enter Try.func80, Try.ntmps80
    go_wp2
    go_ret
    exact ⟨rfl, HH.out, grown_of_below (Below.refl _ _) _⟩
theorem grown_after {w w1 w2 : World} {row : Option Nat} (h : Below w.heap.size w w1) (hg : w1.grownBy w2 row) : w.grownBy w2 row :=
  ⟨hg.os.trans h.os, hg.tape.trans h.tape, hg.output.trans h.output, Nat.le_trans h.size hg.size, fun k hk hne => (hg.block k (Nat.lt_of_lt_of_le hk h.size) hne).trans (h.block k hk)⟩
theorem rSize_bs (s : RSt) (most : Int) : (rSize s most).2.bs = s.bs := by
  unfold rSize took
  split
  · rfl
  · split <;> rfl
set_option maxRecDepth 100000 in
set_option maxHeartbeats 1000000 in
theorem Size_calls (R base : Nat) (s : RSt) (most : Int) (w : World) (h : Rdr w R base s) (hm : most < 9223372036854775808) :
    Calls Try.prog 51 #[.pointer (some ⟨R, 0, none⟩), .int .i64 most] w fun e w' => e = .returned (.int .i64 (rSize s most).1) ∧ Rdr w' R base (rSize s most).2 ∧ w.grownBy w' (some R) := by
  have HH := Aside0.mk h
  clear h
  have HB : Aside0 (Below w.heap.size w ((w.alloc (.cells #[.pointer (some ⟨R, 0, none⟩)] 88)).alloc (.cells #[.int .i64 most] 3))) := ⟨((Below.refl _ w).alloc (Nat.le_refl _) _).alloc (by simp) _⟩
  have HC1 : Aside0 (((w.alloc (.cells #[.pointer (some ⟨R, 0, none⟩)] 88)).alloc (.cells #[.int .i64 most] 3)).cell? ⟨w.heap.size, 0, none⟩ = some (.pointer (some ⟨R, 0, none⟩))) := ⟨blk_cell (blk_alloc (blk_new w (.cells #[.pointer (some ⟨R, 0, none⟩)] 88)) (.cells #[.int .i64 most] 3)) 0⟩
  have HC2 : Aside0 (((w.alloc (.cells #[.pointer (some ⟨R, 0, none⟩)] 88)).alloc (.cells #[.int .i64 most] 3)).cell? ⟨w.heap.size + 1, 0, none⟩ = some (.int .i64 most)) := ⟨by
    have := blk_cell (blk_new (w.alloc (.cells #[.pointer (some ⟨R, 0, none⟩)] 88)) (.cells #[.int .i64 most] 3)) 0
    rwa [World.size_alloc] at this⟩
  go_enter Try.func51, Try.ntmps51
  go_wp2_with (go_at_call 80; ((with_reducible refine (takeSize_calls R base w.heap.size (w.heap.size + 1) s _ most _ (HH.out.below HB.out) HC1.out HC2.out hm).mono ?_)); rintro e w2 ⟨rfl, hr2, hg2⟩; have HR2 := Aside0.mk hr2; have HG2 := Aside0.mk hg2; clear hr2 hg2)
  go_ret
  exact ⟨rfl, HR2.out, grown_after HB.out HG2.out⟩
end Go.Proofs.Ytimlgpfcgklddaa.P
namespace Go.Proofs.Ytimlgpfcgklddaa
open Go.RowKit
def unz (u : Int) : Int := if u % 2 = 0 then u / 2 else -(u / 2) - 1
def rNum (s : RSt) : Int × RSt := took s (numF (s.bs.drop s.at'))
def rInt (s : RSt) : Int × RSt := (unz (rNum s).1, (rNum s).2)
theorem took_range {s : RSt} {r : Int × Int} (h0 : 0 ≤ r.1) (h1 : r.1 < 18446744073709551616) : 0 ≤ (took s r).1 ∧ (took s r).1 < 18446744073709551616 := by
  unfold took
  split
  · exact ⟨by simp, by simp⟩
  · split
    · exact ⟨by simp, by simp⟩
    · exact ⟨h0, h1⟩
theorem xor_i64_zero {a : Int} (h0 : 0 ≤ a) (h1 : a < 9223372036854775808) : bits .xor .i64 a 0 = a := by
  obtain ⟨m, rfl⟩ := Int.eq_ofNat_of_zero_le h0
  have ha : m % 2 ^ IntKind.i64.bits = m := Nat.mod_eq_of_lt (by show m < 2 ^ 64; omega)
  have e0 : BitVec.ofInt IntKind.i64.bits 0 = 0#(IntKind.i64.bits) := rfl
  simp only [bits, BitVec.ofInt_natCast, e0, BitVec.xor_zero, BitVec.toNat_ofNat, ha]
  rw [IntKind.wrap_i64]
  omega
theorem xor_i64_ones {a : Int} (h0 : 0 ≤ a) (h1 : a < 9223372036854775808) : bits .xor .i64 a (-1) = -a - 1 := by
  obtain ⟨m, rfl⟩ := Int.eq_ofNat_of_zero_le h0
  have ha : m % 2 ^ 64 = m := Nat.mod_eq_of_lt (by omega)
  have e1 : BitVec.ofInt 64 (-1) = BitVec.allOnes 64 := by decide
  have e2 : (BitVec.ofNat 64 m ^^^ BitVec.allOnes 64).toNat = 18446744073709551615 - m := by
    rw [BitVec.xor_allOnes, BitVec.toNat_not, BitVec.toNat_ofNat, ha]
  have e3 : bits .xor .i64 (m : Int) (-1) = IntKind.i64.wrap (((BitVec.ofInt 64 (m : Int) ^^^ BitVec.ofInt 64 (-1)).toNat : Nat) : Int) := rfl
  rw [e3, e1, BitVec.ofInt_natCast, e2, IntKind.wrap_i64]
  omega
theorem and1_u64 {u : Int} (h0 : 0 ≤ u) (h1 : u < 18446744073709551616) : bits .and .u64 u 1 = u % 2 :=
  bits_mask .u64 64 (Nat.le_refl _) (fun n h0 h1 => by rw [wrap_u64]; omega) 1 (by omega) u h0 (by omega)
theorem unz_eq {u : Int} (h0 : 0 ≤ u) (h1 : u < 18446744073709551616) : bits .xor .i64 (u / 2) (-(u % 2)) = unz u := by
  unfold unz
  split
  · rename_i h
    rw [h]
    exact xor_i64_zero (by omega) (by omega)
  · have : u % 2 = 1 := by omega
    rw [this]
    exact xor_i64_ones (by omega) (by omega)
end Go.Proofs.Ytimlgpfcgklddaa
namespace Go.Proofs.Ytimlgpfcgklddaa.P
open Go.RowKit Go.Shelf Go.Proofs.YtimlgpfcgklddaaW.PrintWords Go.Proofs.YtimlgpfcgklddaaW.PrintLast Go.Proofs.YtimlgpfcgklddaaW.PrintMore
set_option linter.unusedVariables false
set_option linter.unusedSimpArgs false
set_option maxRecDepth 100000 in
set_option maxHeartbeats 1000000 in
theorem takeNum_calls (R base : Nat) (s : RSt) (rv : Value) (w : World) (h : Rdr w R base s) :
    Calls Try.prog 128 #[.pointer (some ⟨R, 0, none⟩), .func (.func 82) #[rv] #[]] w fun e w' => e = .returned (.int .u64 (rNum s).1) ∧ Rdr w' R base (rNum s).2 ∧ w.grownBy w' (some R) := by
  have HH := Aside0.mk h
  obtain ⟨v, hb, hx⟩ := h.v
  obtain ⟨hle, hlen, hrange⟩ := h.ok
  have HR := Aside0.mk hrange
  obtain ⟨bs, at0, e0⟩ := s
  dsimp only at *
  have hc0 := blk_cell hb 0
  have hc1 := blk_cell hb 1
  have hc2 := blk_cell hb 2
  have hf1 := blk_frozen hb 1
  have hf2 := blk_frozen hb 2
  unfold rNum took
  dsimp only
  clear h
  by_cases he : e0 = 0
  · subst he
    rw [if_neg (by decide)]
    obtain ⟨A, c, rfl, hc, hC⟩ := hx.reads
    clear hx hb hrange
    have hS := number_calls rv (if c = at0 then A else Option.map (fun x => x.add at0) A) (bs.drop at0) (c - at0) w.drew (Kd.C_drew (C_from hC hc at0 hle)) (by rw [List.length_drop]; omega) (by rw [List.length_drop]; omega) (fun x hx => HR.out x (List.mem_of_mem_drop hx))
    have hr := numF_range (bs := bs.drop at0) (fun x hx => HR.out x (List.mem_of_mem_drop hx))
    rw [List.length_drop] at hS hr
    obtain ⟨x, n, hxn⟩ : ∃ x n, numF (bs.drop at0) = (x, n) := ⟨_, _, rfl⟩
    rw [hxn] at hS hr ⊢
    dsimp only at hS hr ⊢
    have HS := Aside0.mk hS
    clear hS hxn hC
    obtain ⟨_, _, hn0, hn1⟩ := hr
    by_cases hneg : n < 0
    · rw [if_pos hneg]
      go_enter Try.func128, Try.ntmps128
      go_wp2
      refine wp_region_still_lit (by kernel_rfl) (by kernel_rfl) ?_
      repeat still_step
      still_call HS.out
      repeat still_step
      refine wpStill_nil ?_
      go_wp2
      all_goals go_ret
      all_goals exact ⟨rfl, (HH.out.drew).put2 20, below_set (Below.drew (Below.refl _ _)) R 2 _⟩
    · rw [if_neg hneg]
      have hwa : IntKind.i64.wrap ((at0 : Int) + n) = (at0 : Int) + n := by rw [IntKind.wrap_i64]; omega
      have hna : ((at0 + n.toNat : Nat) : Int) = (at0 : Int) + n := by omega
      go_enter Try.func128, Try.ntmps128
      go_wp2
      refine wp_region_still_lit (by kernel_rfl) (by kernel_rfl) ?_
      repeat still_step
      still_call HS.out
      repeat still_step
      refine wpStill_nil ?_
      have h1 := (HH.out.drew).put1 (at0 + n.toNat) (by show at0 + n.toNat ≤ bs.length; omega)
      rw [hna] at h1
      have HP := Aside0.mk h1
      clear h1
      go_wp2
      all_goals go_ret
      all_goals exact ⟨rfl, HP.out, below_set (Below.drew (Below.refl _ _)) R 1 _⟩
  · rw [if_pos he]
    clear hx hb hrange
    go_enter Try.func128, Try.ntmps128
    go_wp2
    go_ret
    exact ⟨rfl, HH.out, grown_of_below (Below.refl _ _) _⟩
set_option maxRecDepth 100000 in
set_option maxHeartbeats 1000000 in
theorem Int_calls (R base : Nat) (s : RSt) (w : World) (h : Rdr w R base s) :
    Calls Try.prog 108 #[.pointer (some ⟨R, 0, none⟩)] w fun e w' => e = .returned (.int .i64 (rInt s).1) ∧ Rdr w' R base (rInt s).2 ∧ w.grownBy w' (some R) := by
  have HS := Aside0.mk (takeNum_calls R base s (.pointer (some ⟨R, 0, none⟩)) w h)
  have hr := numF_range (bs := s.bs.drop s.at') (fun x hx => h.ok.range x (List.mem_of_mem_drop hx))
  have hr2 : 0 ≤ (rNum s).1 ∧ (rNum s).1 < 18446744073709551616 := took_range hr.1 hr.2.1
  unfold rInt
  obtain ⟨u, st, hu⟩ : ∃ u st, rNum s = (u, st) := ⟨_, _, rfl⟩
  rw [hu] at hr2 HS ⊢
  dsimp only at hr2 HS ⊢
  obtain ⟨hu0, hu1⟩ := hr2
  clear h hr hu
  have hw1 : IntKind.i64.wrap (u / 2) = u / 2 := by rw [IntKind.wrap_i64]; omega
  have hw2 : bits .and .u64 u 1 = u % 2 := and1_u64 hu0 hu1
  have hw3 : IntKind.i64.wrap (u % 2) = u % 2 := by rw [IntKind.wrap_i64]; omega
  have hw4 : IntKind.i64.wrap (-(u % 2)) = -(u % 2) := by rw [IntKind.wrap_i64]; omega
  go_enter Try.func108, Try.ntmps108
  go_wp2_with (go_at_call 128; ((with_reducible refine HS.out.mono ?_)); rintro e w2 ⟨rfl, hr2, hg2⟩; have HR2 := Aside0.mk hr2; have HG2 := Aside0.mk hg2; clear hr2 hg2)
  have hz := unz_eq hu0 hu1
  go_ret
  exact ⟨by rw [← hz]; rfl, HR2.out, HG2.out⟩
end Go.Proofs.Ytimlgpfcgklddaa.P
