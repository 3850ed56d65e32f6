/-
Texts of this seat, laid together: O3, O4, R3, R4.
-/
import Derived.BigQuiet
import Derived.Test.YtimlgpfcgklddaaQF97
import Derived.Test.YtimlgpfcgklddaaQF107
import Derived.Test.YtimlgpfcgklddaaQR1
import Derived.Test.YtimlgpfcgklddaaQO2
import Derived.Test.YtimlgpfcgklddaaQC8
namespace Go.Proofs.Ytimlgpfcgklddaa.P
open Go.RowKit Go.Shelf Go.Proofs.YtimlgpfcgklddaaW.PrintWords Go.Proofs.YtimlgpfcgklddaaW.PrintLast Go.Proofs.YtimlgpfcgklddaaW.PrintMore
set_option linter.unusedVariables false
set_option linter.unusedSimpArgs false
set_option maxRecDepth 100000 in
set_option maxHeartbeats 1000000 in
theorem QUint_calls (w0 : World) (R : Nat) (A : Option Addr) (c : Nat) (s : RSt) (w : World) (h : Rf w0 w R A c s) :
    Calls Try.prog 139 #[.pointer (some ⟨R, 0, none⟩)] w fun e w' => e = .returned (.int .u64 (qNum s).1) ∧ Rf w0 w' R A c (qNum s).2 ∧ w.grownBy w' (some R) := by
  have HH := Aside0.mk h
  obtain ⟨hle, hlen, hrange⟩ := h.ok
  have hb := h.v
  have hC := Kd.C_below h.C0 h.bel
  have hc := h.hc
  have HR := Aside0.mk hrange
  obtain ⟨bs, at0, e0⟩ := s
  dsimp only at *
  have hc0 := blk_cell hb 0
  have hc1 := blk_cell hb 1
  have hc2 := blk_cell hb 2
  have hf1 := blk_frozen hb 1
  have hf2 := blk_frozen hb 2
  have H1 := Aside0.mk hb
  unfold qNum took
  dsimp only
  clear h hb hrange
  by_cases he : e0 = 0
  · subst he
    rw [if_neg (by decide)]
    have HN : Aside0 (∀ W, Below w.heap.size w W → Calls Try.prog 97 #[.slice (if c = at0 then A else Option.map (fun x => x.add at0) A) (bs.length - at0) (c - at0)] W fun e w' => e = .returned (.tuple #[.int .u64 (numR (bs.drop at0)).1, .int .i64 (numR (bs.drop at0)).2]) ∧ Below W.heap.size W w') := ⟨fun W hW => by
      have := refnum_calls (if c = at0 then A else Option.map (fun x => x.add at0) A) (bs.drop at0) (c - at0) W (Kd.C_below (C_from hC hc at0 hle) hW) (by rw [List.length_drop]; omega) (by rw [List.length_drop]; omega) (fun x hx => HR.out x (List.mem_of_mem_drop hx))
      rw [List.length_drop] at this
      exact this⟩
    obtain ⟨A', hA'⟩ : ∃ A', (if c = at0 then A else Option.map (fun x => x.add at0) A) = A' := ⟨_, rfl⟩
    rw [hA'] at HN
    have hr := numR_facts (bs.drop at0)
    rw [List.length_drop] at hr
    unfold qnum
    obtain ⟨u, n, hun⟩ : ∃ u n, numR (bs.drop at0) = (u, n) := ⟨_, _, rfl⟩
    rw [hun] at HN hr ⊢
    dsimp only at HN hr ⊢
    obtain ⟨hu0, hu1, hn0, hn1, hn2⟩ := hr
    clear hun hC
    have hk0 : w.drew.cell? ⟨R, 0, none⟩ = some (.slice A bs.length c) := hc0
    have hk1 : w.drew.cell? ⟨R, 1, none⟩ = some (.int .i64 (at0 : Int)) := hc1
    by_cases hneg : n = 0
    · have hq : (if n = 0 then ((0 : Int), (-1 : Int)) else (u, n)) = (0, -1) := if_pos hneg
      rw [hq, if_pos (by decide)]
      clear hq
      go_enter Try.func139, Try.ntmps139
      go_wp2
      go_region_held3 (fun w' => w'.cell? ⟨R, 0, none⟩ = some (.slice A bs.length c) ∧ w'.cell? ⟨R, 1, none⟩ = some (.int .i64 (at0 : Int))) (first | with_reducible exact ⟨hk0, hk1⟩ | with_reducible exact ⟨hd0, hd1⟩) (first | (go_at_call 97; ((with_reducible refine (HN.out _ (Below.drew (Below.refl _ _))).mono ?_)); rintro e w5 ⟨rfl, hb5⟩; have hB5 : Below w.heap.size w w5 := ⟨hb5.os, hb5.tape, hb5.output, hb5.size, hb5.block⟩; have HB5 := Aside0.mk hB5; have hz := blk_below H1.out hB5; have hd0 : w5.cell? ⟨R, 0, none⟩ = some (.slice A bs.length c) := blk_cell hz 0; have hd1 : w5.cell? ⟨R, 1, none⟩ = some (.int .i64 (at0 : Int)) := blk_cell hz 1; have hd2 := blk_cell hz 2; have hg2 := blk_frozen hz 2; clear hb5 hB5 hz))
      go_wp2
      go_ret
      exact ⟨rfl, (HH.out.below HB5.out).put2 20, below_set HB5.out R 2 _⟩
    · have hq : (if n = 0 then ((0 : Int), (-1 : Int)) else (u, n)) = (u, n) := if_neg hneg
      rw [hq, if_neg (by show ¬ n < 0; omega)]
      clear hq
      have hnb : (n == 0) = false := beq_eq_false_iff_ne.mpr hneg
      have hwa : IntKind.i64.wrap ((at0 : Int) + n) = (at0 : Int) + n := by rw [IntKind.wrap_i64]; omega
      have hna : ((at0 + n.toNat : Nat) : Int) = (at0 : Int) + n := by omega
      go_enter Try.func139, Try.ntmps139
      go_wp2
      go_region_held3 (fun w' => w'.cell? ⟨R, 0, none⟩ = some (.slice A bs.length c) ∧ w'.cell? ⟨R, 1, none⟩ = some (.int .i64 (at0 : Int))) (first | with_reducible exact ⟨hk0, hk1⟩ | with_reducible exact ⟨hd0, hd1⟩) (first | (go_at_call 97; ((with_reducible refine (HN.out _ (Below.drew (Below.refl _ _))).mono ?_)); rintro e w5 ⟨rfl, hb5⟩; have hB5 : Below w.heap.size w w5 := ⟨hb5.os, hb5.tape, hb5.output, hb5.size, hb5.block⟩; have HB5 := Aside0.mk hB5; have hz := blk_below H1.out hB5; have hd0 : w5.cell? ⟨R, 0, none⟩ = some (.slice A bs.length c) := blk_cell hz 0; have hd1 : w5.cell? ⟨R, 1, none⟩ = some (.int .i64 (at0 : Int)) := blk_cell hz 1; have hd2 := blk_cell hz 2; have hg1 := blk_frozen hz 1; clear hb5 hB5 hz))
      have h1 := (HH.out.below HB5.out).put1 (at0 + n.toNat) (by show at0 + n.toNat ≤ bs.length; omega)
      rw [hna] at h1
      have HP := Aside0.mk h1
      clear h1
      go_wp2
      go_ret
      exact ⟨rfl, HP.out, below_set HB5.out R 1 _⟩
  · rw [if_pos he]
    clear hC
    go_enter Try.func139, Try.ntmps139
    go_wp2
    go_ret
    exact ⟨rfl, HH.out, grown_of_below (Below.refl _ _) _⟩
theorem qNum_range (s : RSt) : 0 ≤ (qNum s).1 ∧ (qNum s).1 < 18446744073709551616 := by
  unfold qNum
  have h := numR_facts (s.bs.drop s.at')
  refine took_range ?_ ?_
  · unfold qnum; split
    · exact Int.le_refl _
    · exact h.1
  · unfold qnum; split
    · exact (by decide : (0 : Int) < 18446744073709551616)
    · exact h.2.1
set_option maxRecDepth 100000 in
set_option maxHeartbeats 1000000 in
theorem QInt_calls (w0 : World) (R : Nat) (A : Option Addr) (c : Nat) (s : RSt) (w : World) (h : Rf w0 w R A c s) :
    Calls Try.prog 123 #[.pointer (some ⟨R, 0, none⟩)] w fun e w' => e = .returned (.int .i64 (qInt s).1) ∧ Rf w0 w' R A c (qInt s).2 ∧ w.grownBy w' (some R) := by
  have H1 := Aside0.mk (QUint_calls w0 R A c s w h)
  have hr := qNum_range s
  have hbk := back_eq (qNum s).1 hr.1 hr.2
  unfold qInt
  obtain ⟨u, s', hu⟩ : ∃ u s', qNum s = (u, s') := ⟨_, _, rfl⟩
  rw [hu] at H1 hbk ⊢
  dsimp only at H1 hbk ⊢
  have HB : Aside0 (∀ W, Calls Try.prog 140 #[.int .u64 u] W fun e w' => e = .returned (.int .i64 (unz u)) ∧ Drawn0 W w') := ⟨fun W => lecternref02_Back.calls u _ W hbk⟩
  clear h hr hbk hu
  go_enter Try.func123, Try.ntmps123
  go_wp2_with (first
    | (go_at_call 140; ((with_reducible refine (HB.out _).mono ?_)); rintro e w2 ⟨rfl, hd⟩; have HB2 := Aside0.mk hd.below; clear hd)
    | (go_at_call 139; ((with_reducible refine H1.out.mono ?_)); rintro e w1 ⟨rfl, hr1, hg1⟩; have HR1 := Aside0.mk hr1; have HG1 := Aside0.mk hg1; clear hr1 hg1))
  go_ret
  exact ⟨rfl, HR1.out.below HB2.out, grown_below HG1.out HB2.out⟩
set_option maxRecDepth 100000 in
set_option maxHeartbeats 1000000 in
theorem QErr_calls (w0 : World) (R : Nat) (A : Option Addr) (c : Nat) (s : RSt) (w : World) (h : Rf w0 w R A c s) :
    Calls Try.prog 99 #[.pointer (some ⟨R, 0, none⟩)] w fun e w' => e = .returned (.int .i64 s.e) ∧ w' = w := by
  have h1 := h.v
  have hc0 := blk_cell h1 0
  have hc2 := blk_cell h1 2
  clear h h1
  go_enter Try.func99, Try.ntmps99
  go_wp2
  go_ret
  exact ⟨rfl, rfl⟩
set_option maxRecDepth 100000 in
set_option maxHeartbeats 1000000 in
theorem QEnd_calls (w0 : World) (R : Nat) (A : Option Addr) (c : Nat) (s : RSt) (w : World) (h : Rf w0 w R A c s) :
    Calls Try.prog 69 #[.pointer (some ⟨R, 0, none⟩)] w fun e w' => e = .returned (.int .i64 (rEnd s).e) ∧ Below w0.heap.size w0 w' ∧ w.grownBy w' (some R) := by
  have HH := Aside0.mk h
  have hb := h.v
  have hm := Kd.C_max h.C0
  obtain ⟨bs, at0, e0⟩ := s
  dsimp only at *
  have hc0 := blk_cell hb 0
  have hc1 := blk_cell hb 1
  have hc2 := blk_cell hb 2
  have hf2 := blk_frozen hb 2
  clear h hb
  by_cases he : e0 = 0
  · subst he
    by_cases hlt : at0 < bs.length
    · have hr : rEnd ⟨bs, at0, 0⟩ = ⟨bs, at0, 20⟩ := if_pos ⟨rfl, hlt⟩
      rw [hr]
      have hltd : decide ((at0 : Int) < (bs.length : Int)) = true := decide_eq_true (by omega)
      have hltd2 : decide (at0 < bs.length) = true := decide_eq_true hlt
      have HQ : Aside0 (∀ n, Calls Try.prog 99 #[.pointer (some ⟨R, 0, none⟩)] ((w.drewN n).setCell ⟨R, 2, none⟩ (.int .i64 20)) fun e w' => e = .returned (.int .i64 20) ∧ w' = ((w.drewN n).setCell ⟨R, 2, none⟩ (.int .i64 20))) := ⟨fun n => QErr_calls w0 R A c ⟨bs, at0, 20⟩ _ ((HH.out.below (pw_below_drewN (Below.refl _ _) n)).put2 20)⟩
      go_enter Try.func69, Try.ntmps69
      go_wp2
      go_quiet (fail)
      go_wp2_with (go_at_call 99; ((with_reducible refine (HQ.out _).mono ?_)); rintro e w2 ⟨rfl, rfl⟩)
      go_ret
      exact ⟨rfl, ((HH.out.below (pw_below_drewN (Below.refl _ _) _)).put2 20).bel, below_set (pw_below_drewN (Below.refl _ _) _) R 2 _⟩
    · have hr : rEnd ⟨bs, at0, 0⟩ = ⟨bs, at0, 0⟩ := if_neg (fun h => hlt h.2)
      rw [hr]
      have hltd : decide ((at0 : Int) < (bs.length : Int)) = false := decide_eq_false (by omega)
      have hltd2 : decide (at0 < bs.length) = false := decide_eq_false hlt
      have HQ : Aside0 (∀ n, Calls Try.prog 99 #[.pointer (some ⟨R, 0, none⟩)] (w.drewN n) fun e w' => e = .returned (.int .i64 0) ∧ w' = (w.drewN n)) := ⟨fun n => QErr_calls w0 R A c ⟨bs, at0, 0⟩ _ (HH.out.below (pw_below_drewN (Below.refl _ _) n))⟩
      go_enter Try.func69, Try.ntmps69
      go_wp2
      go_quiet (fail)
      go_wp2_with (go_at_call 99; ((with_reducible refine (HQ.out _).mono ?_)); rintro e w2 ⟨rfl, rfl⟩)
      go_ret
      exact ⟨rfl, (HH.out.below (pw_below_drewN (Below.refl _ _) _)).bel, grown_of_below (pw_below_drewN (Below.refl _ _) _) _⟩
  · have hr : rEnd ⟨bs, at0, e0⟩ = ⟨bs, at0, e0⟩ := if_neg (fun h => he h.1)
    rw [hr]
    have heb : (e0 == 0) = false := beq_eq_false_iff_ne.mpr he
    have HQ : Aside0 (∀ n, Calls Try.prog 99 #[.pointer (some ⟨R, 0, none⟩)] (w.drewN n) fun e w' => e = .returned (.int .i64 e0) ∧ w' = (w.drewN n)) := ⟨fun n => QErr_calls w0 R A c ⟨bs, at0, e0⟩ _ (HH.out.below (pw_below_drewN (Below.refl _ _) n))⟩
    clear hr
    go_enter Try.func69, Try.ntmps69
    go_wp2
    go_quiet (fail)
    go_wp2_with (go_at_call 99; ((with_reducible refine (HQ.out _).mono ?_)); rintro e w2 ⟨rfl, rfl⟩)
    go_ret
    exact ⟨rfl, (HH.out.below (pw_below_drewN (Below.refl _ _) _)).bel, grown_of_below (pw_below_drewN (Below.refl _ _) _) _⟩
end Go.Proofs.Ytimlgpfcgklddaa.P
namespace Go.Proofs.Ytimlgpfcgklddaa
open Go.RowKit Go.Proofs.YtimlgpfcgklddaaW.PrintWords
set_option linter.unusedVariables false
namespace Lx
section
variable {P : Program} {ops : Array Oper} {o : Oper} {a : Act} {Q : Exit → Act → World → Prop} {K : Act → World → Prop}
/-- append(v, ys...), ys read, in a region that draws its order. -/
theorem append_row_step {w0 W : World} (k : IntKind) (base : Nat) (hw : Region.wanted o (yielded ops a.tmps) = true) (s x : Operand) (t e : TypeId) (bytes : Nat)
    (ho : o.op = .call { callee := .builtin .append, args := #[s, x], argTypes := #[t, t] })
    (ht : P.underlying t = some (.slice e)) (hinfo : (P.info? e).map (fun i => (i.zero, i.size, i.bytes)) = some (some (.int k 0), 1, bytes)) (hb0 : 0 < bytes)
    (v : Value) (xs ys : List Int) (A : Option Addr) (m c : Nat) (hs : a.eval s = v) (hx : a.eval x = .slice A m c)
    (HO : Lx k e W base v xs) (HR : (Kd.int k).C W A m ys) (HB : Below base w0 W) (hbase : base ≤ W.heap.size) (hl : (xs.length + m) * bytes ≤ 140737488355328)
    (h : ∀ v1 w1, Lx k e w1 base v1 (xs ++ ys) → Below base w0 w1 → W.grownBy w1 v.ownBlock → K (a.put o.dst v1) w1) :
    if Region.wanted o (yielded ops a.tmps) = true then Oper.wp P o a W K Q else K (a.put o.dst undef) W := by
  obtain ⟨v1, w1, hr, hown, hg, hat⟩ := run_row (P := P) k base t o.type e bytes ht hinfo hb0 v xs ys A m c HO HR hbase hl
  rw [if_pos hw]
  unfold Oper.wp execOp
  simp only [ho, resolve, invoke, builtin, Sem.run_bind, Sem.run_pure, Result.andThen_ok, List.map_toArray, List.map_cons, List.map_nil, hs, hx, hr]
  exact h v1 w1 hown (HB.grown hg hbase (Lax.base_le HO)) hg
end
end Lx
end Go.Proofs.Ytimlgpfcgklddaa
namespace Go.Proofs.Ytimlgpfcgklddaa.P
open Go.RowKit Go.Shelf Go.Proofs.YtimlgpfcgklddaaW.PrintWords Go.Proofs.YtimlgpfcgklddaaW.PrintLast Go.Proofs.YtimlgpfcgklddaaW.PrintMore
set_option linter.unusedVariables false
set_option linter.unusedSimpArgs false
set_option maxRecDepth 100000 in
set_option maxHeartbeats 1000000 in
theorem QBytes_calls (w0 : World) (R : Nat) (A : Option Addr) (c : Nat) (s : RSt) (n : Int) (w : World) (h : Rf w0 w R A c s) :
    Calls Try.prog 67 #[.pointer (some ⟨R, 0, none⟩), .int .i64 n] w fun e w' => ∃ v, e = .returned v ∧ Lx .u8 5 w' w.heap.size v (rBytes s n).1 ∧ Rf w0 w' R A c (rBytes s n).2 ∧ w.grownBy w' (some R) := by
  have HH := Aside0.mk h
  obtain ⟨hle, hlen, hrange⟩ := h.ok
  have hb := h.v
  have hC := Kd.C_below h.C0 h.bel
  have hc := h.hc
  obtain ⟨bs, at0, e0⟩ := s
  dsimp only at *
  have hc0 := blk_cell hb 0
  have hc1 := blk_cell hb 1
  have hc2 := blk_cell hb 2
  have hf1 := blk_frozen hb 1
  have hf2 := blk_frozen hb 2
  have H1 := Aside0.mk hb
  unfold rBytes
  dsimp only
  clear h hb hrange
  by_cases he : e0 = 0
  · subst he
    rw [if_neg (by decide)]
    have hws : IntKind.i64.wrap ((bs.length : Int) - at0) = (bs.length : Int) - at0 := by rw [IntKind.wrap_i64]; omega
    by_cases hneg : n < 0
    · rw [if_pos (.inl hneg)]
      clear hC
      have hnd : decide (n < 0) = true := decide_eq_true hneg
      go_enter Try.func67, Try.ntmps67
      go_wp2
      go_quiet (fail)
      go_wp2
      go_ret
      exact ⟨_, rfl, Lx.nil _ _ _ _, (HH.out.below (pw_below_drewN (Below.refl _ _) _)).put2 20, below_set (pw_below_drewN (Below.refl _ _) _) R 2 _⟩
    · have hnd : decide (n < 0) = false := decide_eq_false hneg
      by_cases hgt : n > (bs.length : Int) - at0
      · rw [if_pos (.inr hgt)]
        clear hC
        have hgd : decide ((bs.length : Int) - at0 < n) = true := decide_eq_true hgt
        go_enter Try.func67, Try.ntmps67
        go_wp2
        go_quiet (fail)
        go_wp2
        go_ret
        exact ⟨_, rfl, Lx.nil _ _ _ _, (HH.out.below (pw_below_drewN (Below.refl _ _) _)).put2 20, below_set (pw_below_drewN (Below.refl _ _) _) R 2 _⟩
      · rw [if_neg (by omega)]
        have hgd : decide ((bs.length : Int) - at0 < n) = false := decide_eq_false hgt
        obtain ⟨n, rfl⟩ := Int.eq_ofNat_of_zero_le (show 0 ≤ n by omega)
        simp only [Int.toNat_natCast]
        have hwa : IntKind.i64.wrap ((at0 : Int) + n) = (at0 : Int) + n := by rw [IntKind.wrap_i64]; omega
        have hle2 : at0 + n ≤ bs.length := by omega
        obtain ⟨A', hA'⟩ : ∃ A', (if c = at0 then A else Option.map (fun x => x.add at0) A) = A' := ⟨_, rfl⟩
        obtain ⟨xs, hxs⟩ : ∃ xs, (bs.drop at0).take n = xs := ⟨_, rfl⟩
        have hxl : xs.length = n := by rw [← hxs, List.length_take, List.length_drop]; omega
        have HC9 : Aside0 ((Kd.int .u8).C w A' (at0 + n - at0) xs) := ⟨by
          rw [show at0 + n - at0 = n from by omega]
          have h1 := C_take (C_from hC hc at0 hle) n (by rw [List.length_drop]; omega)
          rw [hA', hxs, hxl] at h1
          exact h1⟩
        rw [hxs]
        have HXL := Aside0.mk hxl
        have hbd1 : (at0 : Int) + n ≤ (c : Int) := by omega
        have hbd2 : (at0 : Int) ≤ (at0 : Int) + n := by omega
        have hbd3 : (0 : Int) ≤ (at0 : Int) := by omega
        clear hC hxs hxl
        go_enter Try.func67, Try.ntmps67
        go_wp2
        go_quiet (fail)
        go_wp2
        have hk0 : (w.drewN nq).drew.cell? ⟨R, 0, none⟩ = some (.slice A bs.length c) := hc0
        have hk1 : (w.drewN nq).drew.cell? ⟨R, 1, none⟩ = some (.int .i64 (at0 : Int)) := hc1
        go_region_held3 (fun w' => w'.cell? ⟨R, 0, none⟩ = some (.slice A bs.length c) ∧ w'.cell? ⟨R, 1, none⟩ = some (.int .i64 (at0 : Int))) (first | with_reducible exact ⟨hk0, hk1⟩ | with_reducible exact ⟨hd0, hd1⟩) (first | (refine Lx.append_row_step (w0 := w) .u8 w.heap.size (by rfl) (.tmp 34) (.tmp 49) 25 5 1 rfl Try.underlying25 info5 (by decide) (.slice none 0 0) [] xs A' (at0 + n - at0) (c - at0) rfl rfl (Lx.nil _ _ _ _) (Kd.C_below HC9.out (Below.drew (pw_below_drewN (Below.refl _ _) _))) (Below.drew (pw_below_drewN (Below.refl _ _) _)) (Nat.le_refl _) (by simp; omega) ?_; intro v1 w1 ho hb hg; rw [List.nil_append] at ho; obtain ⟨A1, c1, rfl, hc1', _⟩ := ho.reads; have HO := Aside0.mk ho; have HB := Aside0.mk hb; have hz := blk_below H1.out hb; have hd0 : w1.cell? ⟨R, 0, none⟩ = some (.slice A bs.length c) := blk_cell hz 0; have hd1 : w1.cell? ⟨R, 1, none⟩ = some (.int .i64 (at0 : Int)) := blk_cell hz 1; have hg1 := blk_frozen hz 1; clear ho hb hg hz))
        have hna : ((at0 + n : Nat) : Int) = (at0 : Int) + n := by omega
        have h1 := (HH.out.below HB.out).put1 (at0 + n) hle2
        rw [hna] at h1
        have HP := Aside0.mk h1
        have hRlt := HH.out.lt
        have HF : Aside0 (Lx .u8 5 (w1.setCell ⟨R, 1, none⟩ (.int .i64 ((at0 : Int) + n))) w.heap.size (.slice A1 xs.length c1) xs) := ⟨Lx.far (p := ⟨R, 1, none⟩) HO.out (fun j hj => by have h2 : w.heap.size ≤ j := Lax.base_le HO.out j hj; show j ≠ R; omega) _⟩
        clear h1
        go_wp2
        go_ret
        exact ⟨_, rfl, HF.out, HP.out, below_set HB.out R 1 _⟩
  · rw [if_pos he]
    clear hC
    go_enter Try.func67, Try.ntmps67
    go_wp2
    go_ret
    exact ⟨_, rfl, Lx.nil _ _ _ _, HH.out, grown_of_below (Below.refl _ _) _⟩
end Go.Proofs.Ytimlgpfcgklddaa.P
namespace Go.Proofs.Ytimlgpfcgklddaa
open Go.RowKit Go.Proofs.YtimlgpfcgklddaaW.PrintWords Go.Proofs.YtimlgpfcgklddaaW.PrintLast
set_option linter.unusedVariables false
theorem shrk (X k : Nat) (hk : k ≤ 64) : shr .u64 (X : Int) (IntKind.u64.wrap (k : Int)) = ((X / 2 ^ k : Nat) : Int) := by
  rw [u64w (by omega) (by omega)]
  show (X : Int) / 2 ^ min (k : Int).toNat 64 = _
  have e : (2 : Int) ^ k = ((2 ^ k : Nat) : Int) := by push_cast; rfl
  rw [show min (k : Int).toNat 64 = k from by omega, e]
  exact (Int.natCast_ediv X (2 ^ k)).symm
theorem bitLen_min : ∀ (W x : Nat), W ≤ 64 → x < 2 ^ W → Lib.bitLen x ≤ W
  | 0, x, _, h => by
    have : x = 0 := by rw [Nat.pow_zero] at h; omega
    subst this
    decide
  | W + 1, x, hW, h => by
    rcases Nat.eq_zero_or_pos x with h0 | h0
    · subst h0; exact Nat.zero_le _
    · have hx : x < 2 ^ 64 := Nat.lt_of_lt_of_le h (Nat.pow_le_pow_right (by decide) hW)
      rw [Lib.bitLen_half x (by omega) hx]
      have := bitLen_min W (x / 2) (by omega) (by rw [Nat.pow_succ] at h; omega)
      omega
theorem orAll_lt (l : List Int) (W : Nat) (hW : W ≤ 64) (h : ∀ x ∈ l, 0 ≤ x ∧ x.toNat < 2 ^ W) : (orAll l).toNat < 2 ^ W := by
  have hWW : (2 : Nat) ^ W ≤ 2 ^ 64 := Nat.pow_le_pow_right (by decide) hW
  have : ∀ (l : List Int) (a : Nat), (∀ x ∈ l, 0 ≤ x ∧ x.toNat < 2 ^ W) → a < 2 ^ W → (l.foldl (fun a b => bits .or .u64 a b) (a : Int)).toNat < 2 ^ W := by
    intro l
    induction l with
    | nil => intro a _ h; simpa using h
    | cons z q ih =>
      intro a hq ha
      obtain ⟨z0, z1⟩ := hq z List.mem_cons_self
      obtain ⟨p, rfl⟩ := Int.eq_ofNat_of_zero_le z0
      rw [List.foldl_cons, bits_or_nat a p (by omega) (by omega)]
      exact ih (a ||| p) (fun y hy => hq y (List.mem_cons_of_mem _ hy)) (Nat.or_lt_two_pow ha (by omega))
  exact this l 0 h (Nat.pow_pos (by decide))
theorem width_min (l : List Int) (W : Nat) (hW : W ≤ 64) (h : ∀ x ∈ l, 0 ≤ x ∧ x.toNat < 2 ^ W) : widthOf l ≤ W := bitLen_min W _ hW (orAll_lt l W hW h)
theorem rd_nn {l : List Int} (h : ∀ x ∈ l, 0 ≤ x ∧ x < 18446744073709551616) {i : Nat} (hi : i < l.length) : ∃ X : Nat, rd l (i : Int) = (X : Int) ∧ X < 18446744073709551616 ∧ (X : Int) ∈ l := by
  have he : rd l (i : Int) = l[i] := by unfold rd; rw [Int.toNat_natCast]; simp [hi]
  have hm := List.getElem_mem hi
  have := h _ hm
  obtain ⟨X, hX⟩ := Int.eq_ofNat_of_zero_le this.1
  exact ⟨X, by rw [he, hX], by omega, by rw [← hX]; exact hm⟩
theorem width_l0 (l : List Int) (hl : l.length ≤ 4611686018427387904) (h : ∀ x ∈ l, 0 ≤ x ∧ x < 18446744073709551616) : ∀ (d i w : Nat), i + d = l.length → w ≤ widthOf l → (∀ j, j < i → (rd l (j : Int)).toNat < 2 ^ w) → Ev (fun k => P.lecternref03_Width.l0 k l w i) ((widthOf l : Nat) : Int)
  | 0, i, w, hi, hw, hb => by
    have hW : widthOf l ≤ w := width_min l w (Nat.le_trans hw (widthOf_le l)) (fun x hx => by
      obtain ⟨j, hj, rfl⟩ := List.mem_iff_getElem.1 hx
      refine ⟨(h _ hx).1, ?_⟩
      have := hb j (by omega)
      have he : rd l (j : Int) = l[j] := by unfold rd; rw [Int.toNat_natCast]; simp [hj]
      rw [he] at this
      exact this)
    have : w = widthOf l := by omega
    subst this
    refine ev1 (f := fun _ => some _) (fun k => ?_) (Ev.now _)
    rw [P.lecternref03_Width.l0, if_neg (by omega)]
  | d + 1, i, w, hi, hw, hb => by
    have hlt : i < l.length := by omega
    obtain ⟨X, hX, hX64, hXm⟩ := rd_nn h hlt
    have hfit := (width_fits l h _ hXm).2
    rw [Int.toNat_natCast] at hfit
    have hw64 := widthOf_le l
    -- the inner loop
    have inner : ∀ (e v : Nat), v + e = widthOf l → w ≤ v → Ev (fun k => P.lecternref03_Width.l1 k l v i) ((widthOf l : Nat) : Int) := by
      intro e
      induction e with
      | zero =>
        intro v hv hwv
        have ih := width_l0 l hl h d (i + 1) v (by omega) (by omega) (fun j hj => by
          rcases Nat.lt_or_ge j i with h1 | h1
          · exact Nat.lt_of_lt_of_le (hb j h1) (Nat.pow_le_pow_right (by decide) hwv)
          · have : j = i := by omega
            rw [this, hX, Int.toNat_natCast]
            rw [show v = widthOf l from by omega]
            exact hfit)
        refine ev1 (fun k => ?_) ih
        by_cases h64 : v < 64
        · rw [P.lecternref03_Width.l1, if_pos (by omega), if_pos (by omega), if_pos (by omega), if_pos (by rw [u64w (by omega) (by omega)]; omega), hX, shrk X v (by omega), if_pos (by rw [Nat.div_eq_of_lt (by rw [show v = widthOf l from by omega]; exact hfit)]; rfl), w64 (by omega) (by omega)]
          rfl
        · rw [P.lecternref03_Width.l1, if_neg (by omega), w64 (by omega) (by omega)]
          rfl
      | succ e ih =>
        intro v hv hwv
        have h64 : v < 64 := by omega
        by_cases hz : X / 2 ^ v = 0
        · have hXv : X < 2 ^ v := by
            rcases Nat.lt_or_ge X (2 ^ v) with h1 | h1
            · exact h1
            · have := Nat.div_pos h1 (Nat.pow_pos (by decide)); omega
          have ih0 := width_l0 l hl h d (i + 1) v (by omega) (by omega) (fun j hj => by
            rcases Nat.lt_or_ge j i with h1 | h1
            · exact Nat.lt_of_lt_of_le (hb j h1) (Nat.pow_le_pow_right (by decide) hwv)
            · have : j = i := by omega
              rw [this, hX, Int.toNat_natCast]
              exact hXv)
          refine ev1 (fun k => ?_) ih0
          rw [P.lecternref03_Width.l1, if_pos (by omega), if_pos (by omega), if_pos (by omega), if_pos (by rw [u64w (by omega) (by omega)]; omega), hX, shrk X v (by omega), if_pos (by rw [hz]; rfl), w64 (by omega) (by omega)]
          rfl
        · refine ev1 (fun k => ?_) (ih (v + 1) (by omega) (by omega))
          rw [P.lecternref03_Width.l1, if_pos (by omega), if_pos (by omega), if_pos (by omega), if_pos (by rw [u64w (by omega) (by omega)]; omega), hX, shrk X v (by omega), if_neg (fun e => hz (by exact_mod_cast e)), w64 (by omega) (by omega)]
          rfl
    refine ev1 (fun k => ?_) (inner (widthOf l - w) w (by omega) (Nat.le_refl _))
    rw [P.lecternref03_Width.l0, if_pos (by omega)]
theorem width_ev (l : List Int) (hl : l.length ≤ 4611686018427387904) (h : ∀ x ∈ l, 0 ≤ x ∧ x < 18446744073709551616) : Ev (fun k => P.lecternref03_Width.f k l) ((widthOf l : Nat) : Int) :=
  width_l0 l hl h l.length 0 0 (by omega) (Nat.zero_le _) (fun j hj => by omega)
theorem shl8 (r : Nat) (h : r < 8) : shl .u8 1 (IntKind.u64.wrap (r : Int)) = ((2 ^ r : Nat) : Int) := by
  rw [u64w (by omega) (by omega)]
  have : ∀ r : Fin 8, shl .u8 1 ((r.val : Nat) : Int) = ((2 ^ r.val : Nat) : Int) := by decide +kernel
  exact this ⟨r, h⟩
theorem and1 (Z : Nat) (h : Z < 18446744073709551616) : bits .and .u64 (Z : Int) 1 = ((Z % 2 : Nat) : Int) := by
  have := bits_mask .u64 64 (Nat.le_refl _) (fun n h0 h1 => by rw [wrap_u64]; omega) 1 (by omega) (Z : Int) (by omega) (by omega)
  rw [show ((2 : Int) ^ 1 - 1) = 1 from rfl, show ((2 : Int) ^ 1) = 2 from rfl] at this
  rw [this]
  omega
/-- The number that i numbers and k bits of the next one make. -/
def accN (w : Nat) (l : List Int) (i X k : Nat) : Nat := packN w (l.take i) + X % 2 ^ k * 2 ^ (w * i)
theorem tm8 (a : Nat) : Int.tmod (a : Int) 8 = ((a % 8 : Nat) : Int) := by rw [Int.tmod_eq_emod_of_nonneg (by omega)]; omega
theorem td8 (a : Nat) : Int.tdiv (a : Int) 8 = ((a / 8 : Nat) : Int) := by rw [Int.tdiv_eq_ediv_of_nonneg (by omega)]; omega
theorem w64n (k : Nat) (h : k ≤ 9223372036854775807) : wrap64 (k : Int) = (k : Int) := w64 (by omega) (by omega)
theorem w64s (k : Nat) (h : k < 9223372036854775807) : wrap64 ((k : Int) + 1) = ((k + 1 : Nat) : Int) := by rw [w64 (x := (k : Int) + 1) (by omega) (by omega)]; omega
theorem wr_nn (k : Nat) (h : k < 18446744073709551616) : 0 ≤ IntKind.u64.wrap (k : Int) := by rw [u64w (by omega) (by omega)]; omega
theorem bits_row (l : List Int) (w i k a V : Nat) (HV : Aside0 (V < 2 ^ a)) (hw : w ≤ 64) (hkw : k < w) (hi : i < l.length) (ha : a ≤ 134217728) (f : Nat) : P.lecternref03_Bits.l1 (f + 1) l w (leB ((a + 7) / 8) V) (a : Int) i k = (if Go.bits .and .u64 (shr .u64 (rd l i) (IntKind.u64.wrap (k : Int))) 1 = 1 then P.lecternref03_Bits.l1 f l w ((leB (a / 8 + 1) V).set (a / 8) (Go.bits .or .u8 (rd (leB (a / 8 + 1) V) ((a / 8 : Nat) : Int)) (shl .u8 1 (IntKind.u64.wrap ((a % 8 : Nat) : Int))))) ((a + 1 : Nat) : Int) i ((k + 1 : Nat) : Int) else P.lecternref03_Bits.l1 f l w (leB (a / 8 + 1) V) ((a + 1 : Nat) : Int) i ((k + 1 : Nat) : Int)) := by
  rw [P.lecternref03_Bits.l1, if_pos (by omega), tm8, td8, w64n (a / 8) (by omega), w64s a (by omega), w64s k (by omega)]
  by_cases h0 : a % 8 = 0
  · have e1 : leB ((a + 7) / 8) (V) ++ [0] = leB (a / 8 + 1) (V) := by
      rw [show (a + 7) / 8 = a / 8 from by omega]
      unfold leB
      rw [List.range_succ, List.map_append]
      congr 1
      rw [List.map_cons, List.map_nil]
      have : V / 256 ^ (a / 8) = 0 := Nat.div_eq_of_lt (by
        rw [show (256 : Nat) = 2 ^ 8 from rfl, ← Nat.pow_mul, show 8 * (a / 8) = a from by omega]
        exact HV.out)
      rw [this]
      rfl
    rw [if_pos (by omega), if_pos (by rw [leB_length]; omega), e1, Option.bind_some, if_pos (by omega), if_pos (by omega), if_pos (wr_nn k (by omega))]
    by_cases hB : Go.bits .and .u64 (shr .u64 (rd l i) (IntKind.u64.wrap (k : Int))) 1 = 1
    · rw [if_pos hB, if_pos hB, if_pos (Int.natCast_nonneg _), leB_length, if_pos (by omega), if_pos (wr_nn (a % 8) (by omega)), Int.toNat_natCast]
    · rw [if_neg hB, if_neg hB]
  · rw [if_neg (by omega), if_pos (by omega), if_pos (by omega), if_pos (wr_nn k (by omega))]
    rw [show (a + 7) / 8 = a / 8 + 1 from by omega]
    by_cases hB : Go.bits .and .u64 (shr .u64 (rd l i) (IntKind.u64.wrap (k : Int))) 1 = 1
    · rw [if_pos hB, if_pos hB, if_pos (Int.natCast_nonneg _), leB_length, if_pos (by omega), if_pos (wr_nn (a % 8) (by omega)), Int.toNat_natCast]
    · rw [if_neg hB, if_neg hB]
theorem bits_l1 (l : List Int) (w : Nat) (hw : w ≤ 64) (hl : l.length ≤ 1048576) (h : ∀ x ∈ l, 0 ≤ x ∧ x < 18446744073709551616) (i X : Nat) (hi : i < l.length) (hX : rd l (i : Int) = (X : Int)) (hX64 : X < 18446744073709551616) (hP : packN w (l.take i) < 2 ^ (w * i)) (r : List Int) (hk : Ev (fun k => P.lecternref03_Bits.l0 k l w (leB ((w * i + w + 7) / 8) (accN w l i X w)) ((w * i + w : Nat) : Int) ((i + 1 : Nat) : Int)) r) :
    ∀ (d k : Nat), k + d = w → Ev (fun f => P.lecternref03_Bits.l1 f l w (leB ((w * i + k + 7) / 8) (accN w l i X k)) ((w * i + k : Nat) : Int) i k) r
  | 0, k, hd => by
    have e : k = w := by omega
    subst e
    refine ev1 (fun f => ?_) hk
    rw [P.lecternref03_Bits.l1, if_neg (by omega), w64 (by omega) (by omega)]
    rfl
  | d + 1, k, hd => by
    have ih := bits_l1 l w hw hl h i X hi hX hX64 hP r hk d (k + 1) (by omega)
    have hwi : w * i ≤ 64 * 1048576 := Nat.mul_le_mul hw (by omega)
    obtain ⟨a, ha⟩ : ∃ a, w * i + k = a := ⟨_, rfl⟩
    have ha2 : w * i + (k + 1) = a + 1 := by omega
    rw [ha2] at ih
    rw [ha]
    have hV : accN w l i X k < 2 ^ a := by
      unfold accN
      have h3 : X % 2 ^ k + 1 ≤ 2 ^ k := Nat.mod_lt _ (Nat.pow_pos (by decide))
      have h4 : (X % 2 ^ k + 1) * 2 ^ (w * i) ≤ 2 ^ k * 2 ^ (w * i) := Nat.mul_le_mul_right _ h3
      rw [← Nat.pow_add, Nat.add_comm k, ha, Nat.add_mul, Nat.one_mul] at h4
      omega
    -- the row with its byte at hand
    have hrow := bits_row l w i k a (accN w l i X k) ⟨hV⟩ hw (by omega) hi (by omega)
    have hb := bits_round (a / 8 + 1) (packN w (l.take i)) X (w * i) k 1 hP (by omega) (by omega)
    rw [ha] at hb
    have hacc : packN w (l.take i) + X % 2 ^ k * 2 ^ (w * i) = accN w l i X k := rfl
    rw [hacc] at hb
    have hacc1 : packN w (l.take i) + X % 2 ^ (k + 1) * 2 ^ (w * i) = accN w l i X (k + 1) := rfl
    rw [hacc1] at hb
    have hbit : Go.bits .and .u64 (shr .u64 (rd l i) (IntKind.u64.wrap (k : Int))) 1 = ((X / 2 ^ k % 2 : Nat) : Int) := by
      rw [hX, shrk X k (by omega)]
      exact and1 _ (Nat.lt_of_le_of_lt (Nat.div_le_self _ _) hX64)
    have hrdd : rd (leB (a / 8 + 1) (accN w l i X k)) ((a / 8 : Nat) : Int) = ((accN w l i X k / 256 ^ (a / 8) % 256 : Nat) : Int) := by
      unfold rd
      rw [Int.toNat_natCast]
      exact leB_rd _ _ _ (by omega)
    rw [show (a + 1 + 7) / 8 = a / 8 + 1 from by omega] at ih
    refine ev1 (fun f => ?_) ih
    rw [hrow f, hbit]
    have h1 := hb.1
    rw [show (2 : Nat) ^ 1 = 2 from rfl] at h1
    rcases Nat.mod_two_eq_zero_or_one (X / 2 ^ k) with hz | hz
    · rw [hz, if_neg (by decide)]
      simp only [hz, Nat.zero_mul, Nat.add_zero] at h1
      have h2 : (leB (a / 8 + 1) (accN w l i X k)).set (a / 8) ((accN w l i X k / 256 ^ (a / 8) % 256 : Nat) : Int) = leB (a / 8 + 1) (accN w l i X k) := by
        apply List.ext_getElem?
        intro j
        rw [List.getElem?_set]
        split
        · rename_i hj
          subst hj
          rw [leB_length, if_pos (by omega), leB_get _ _ _ (by omega)]
        · rfl
      rw [h1, h2]
    · rw [hz, if_pos (by decide), hrdd, shl8 (a % 8) (by omega)]
      rw [hz, Nat.one_mul] at h1
      have hlow := hb.2
      have h8 := (pow_le8 (t := a % 8) (by omega))
      have hp : 2 ^ (a % 8) * 2 ≤ 256 := by
        rw [← Nat.pow_succ]
        exact (pow_le8 (t := a % 8 + 1) (by omega)).2
      have h3 := or_low (c := 1) hlow
      rw [Nat.one_mul] at h3
      rw [or_u8 _ _ (by omega) (by omega), h3, h1]
theorem bits_l0 (l : List Int) (w : Nat) (hw : w ≤ 64) (hl : l.length ≤ 1048576) (h : ∀ x ∈ l, 0 ≤ x ∧ x < 18446744073709551616) (hfit : ∀ x ∈ l, x.toNat < 2 ^ w) : ∀ (d i : Nat), i + d = l.length → Ev (fun k => P.lecternref03_Bits.l0 k l w (leB ((w * i + 7) / 8) (packN w (l.take i))) ((w * i : Nat) : Int) i) (leB ((w * l.length + 7) / 8) (packN w l))
  | 0, i, hi => by
    have e : i = l.length := by omega
    subst e
    rw [List.take_length]
    refine ev1 (f := fun _ => some _) (fun k => ?_) (Ev.now _)
    rw [P.lecternref03_Bits.l0, if_neg (by omega)]
  | d + 1, i, hi => by
    have hlt : i < l.length := by omega
    obtain ⟨X, hX, hX64, hXm⟩ := rd_nn h hlt
    have hXf := hfit _ hXm
    rw [Int.toNat_natCast] at hXf
    have ih := bits_l0 l w hw hl h hfit d (i + 1) (by omega)
    have hP : packN w (l.take i) < 2 ^ (w * i) := by
      have := packN_lt w (l.take i) (fun x hx => hfit x (List.mem_of_mem_take hx))
      rw [List.length_take, Nat.min_eq_left (by omega)] at this
      exact this
    have htk : packN w (l.take (i + 1)) = accN w l i X w := by
      rw [take_rd l i hlt, packN_snoc, List.length_take, Nat.min_eq_left (by omega)]
      unfold accN
      have : (l.getD i 0).toNat = X := by
        have : l.getD i 0 = rd l (i : Int) := by unfold rd; rw [Int.toNat_natCast]
        rw [this, hX, Int.toNat_natCast]
      rw [this, Nat.mod_eq_of_lt hXf]
    rw [htk, Nat.mul_succ] at ih
    have h1 := bits_l1 l w hw hl h i X hlt hX hX64 hP _ ih w 0 (by omega)
    have h0 : accN w l i X 0 = packN w (l.take i) := by unfold accN; rw [Nat.pow_zero, Nat.mod_one, Nat.zero_mul, Nat.add_zero]
    rw [h0, Nat.add_zero] at h1
    refine ev1 (fun k => ?_) h1
    rw [P.lecternref03_Bits.l0, if_pos (by omega)]
    rfl
theorem bits_ev (l : List Int) (w : Nat) (hw : w ≤ 64) (hl : l.length ≤ 1048576) (h : ∀ x ∈ l, 0 ≤ x ∧ x < 18446744073709551616) (hfit : ∀ x ∈ l, x.toNat < 2 ^ w) : Ev (fun k => P.lecternref03_Bits.f k l w) (leB ((w * l.length + 7) / 8) (packN w l)) := by
  have := bits_l0 l w hw hl h hfit l.length 0 (by omega)
  rw [Nat.mul_zero, List.take_zero] at this
  have e1 : ∀ k, P.lecternref03_Bits.f k l w = P.lecternref03_Bits.j0 k l w [] false := fun k => by
    unfold P.lecternref03_Bits.f
    rw [if_neg (by omega), decide_eq_false (by omega)]
  refine Ev.congr e1 (ev1 (fun k => ?_) this)
  rw [P.lecternref03_Bits.j0, if_neg (by decide)]
  rfl
end Go.Proofs.Ytimlgpfcgklddaa
