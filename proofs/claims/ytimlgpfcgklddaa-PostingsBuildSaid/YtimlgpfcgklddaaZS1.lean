/-
Texts of this seat, laid together: S1, S2, S3, S4.
-/
import Derived.Deep.CutRange
import Derived.Test.YtimlgpfcgklddaaZF56
import Derived.Test.YtimlgpfcgklddaaZD5
/-
Numbers lent with a mark behind them; are they kept?
-/
namespace Go.Proofs.Ytimlgpfcgklddaa
open Go.RowKit Go.Proofs.YtimlgpfcgklddaaW.PrintWords
/-- A row of one's own with a mark behind it. -/
def LentI (w : World) (base : Nat) (v : Value) (xs : List Int) : Prop := ∃ A c, v = .slice A xs.length c ∧ xs.length + 1 ≤ c ∧ Lx .i64 3 w base (.slice A (xs.length + 1) c) (xs ++ [-7171])
theorem LentI.below {w w1 : World} {base : Nat} {v : Value} {xs : List Int} (h : LentI w base v xs) (hb : Below w.heap.size w w1) : LentI w1 base v xs := by
  obtain ⟨A, c, e, hc, hx⟩ := h
  exact ⟨A, c, e, hc, hx.below hb⟩
theorem LentI.lower {w : World} {base b : Nat} {v : Value} {xs : List Int} (h : LentI w base v xs) (hb : b ≤ base) : LentI w b v xs := by
  obtain ⟨A, c, e, hc, hx⟩ := h
  exact ⟨A, c, e, hc, hx.lower hb⟩
theorem LentI.grown {w w1 : World} {base : Nat} {v : Value} {xs : List Int} (h : LentI w base v xs) {row : Option Nat} (hg : w.grownBy w1 row) (hne : ∀ k cells, row = some k → w.heap[k]? = some (.cells cells 3 (0, 0)) → False) : LentI w1 base v xs := by
  obtain ⟨A, c, e, hc, hx⟩ := h
  refine ⟨A, c, e, hc, Lax.grown hx hg fun k hk ej => ?_⟩
  obtain ⟨cells, h1⟩ := Lax.typed hx k hk
  exact hne k cells ej.symm h1
theorem LentI.reads {w : World} {base : Nat} {A : Option Addr} {n c : Nat} {xs : List Int} (h : LentI w base (.slice A n c) xs) : n = xs.length ∧ n + 1 ≤ c ∧ (Kd.int .i64).C w A xs.length xs ∧ ∃ ad, A = some ad ∧ w.cell? (ad.add xs.length) = some (.int .i64 (-7171)) := by
  obtain ⟨A', c', e, hc, hx⟩ := h
  injection e with e1 e2 e3
  subst e1; subst e2; subst e3
  have hr := (Lx.reads' hx).2.2
  have hl : (xs ++ [(-7171 : Int)]).length = xs.length + 1 := by simp
  have h1 := P.C_take hr xs.length (by omega)
  rw [List.take_left] at h1
  obtain ⟨ad, e, hcell⟩ := Kd.at_int hr (xs.length : Int) (by omega) (by omega)
  rw [Int.toNat_natCast] at hcell
  have e5 : rd (xs ++ [(-7171 : Int)]) (xs.length : Int) = -7171 := by unfold rd; simp
  rw [e5] at hcell
  exact ⟨rfl, hc, h1, ad, e, hcell⟩
end Go.Proofs.Ytimlgpfcgklddaa
namespace Go.Proofs.Ytimlgpfcgklddaa.P
open Go.RowKit Go.Shelf Go.Proofs.YtimlgpfcgklddaaW.PrintWords Go.Proofs.YtimlgpfcgklddaaW.PrintLast Go.Proofs.YtimlgpfcgklddaaW.PrintMore
set_option linter.unusedVariables false
set_option linter.unusedSimpArgs false
theorem intsGo (x0 x1 : List Int) (h : x0.length = x1.length) (hm : x0.length ≤ 9223372036854775807) : ∀ (k j : Nat), x0.length < j + k → j ≤ x0.length → lecternkit_Ints.l0 k x0 x1 j = some (decide (x0.drop j = x1.drop j))
  | 0, j, h1, h2 => by omega
  | k + 1, j, h1, h2 => by
    rw [lecternkit_Ints.l0]
    by_cases hj : j < x0.length
    · rw [if_pos (by omega), if_pos (by omega), if_pos (by omega), drop_rd x0 j hj, drop_rd x1 j (by omega)]
      by_cases he : rd x0 j = rd x1 j
      · rw [if_pos he, wrap64_small (by omega) (by omega), he]
        have := intsGo x0 x1 h hm k (j + 1) (by omega) (by omega)
        rw [show ((j : Int) + 1) = ((j + 1 : Nat) : Int) from rfl, this]
        simp
      · rw [if_neg he]
        simp [he]
    · rw [if_neg (by omega), List.drop_eq_nil_of_le (by omega), List.drop_eq_nil_of_le (by omega)]
      simp
theorem Ints_calls (A0 A1 : Option Addr) (c0 c1 : Nat) (x0 x1 : List Int) (w : World) (h0 : (Kd.int .i64).C w A0 x0.length x0) (hc0 : x0.length ≤ c0) (h1 : (Kd.int .i64).C w A1 x1.length x1) (hc1 : x1.length ≤ c1) :
    Calls Try.prog 27 #[.slice A0 x0.length c0, .slice A1 x1.length c1] w fun e w' => e = .returned (.bool (decide (x0 = x1))) ∧ Drawn0 w w' := by
  refine lecternkit_Ints.calls (x0.length + 1) A0 c0 x0 A1 c1 x1 _ w h0 hc0 h1 hc1 ?_
  unfold lecternkit_Ints.f
  by_cases h : x0.length = x1.length
  · rw [if_pos (by omega)]
    exact intsGo x0 x1 h (Kd.C_max h0) (x0.length + 1) 0 (by omega) (by omega)
  · rw [if_neg (by omega)]
    have : ¬ x0 = x1 := fun e => h (by rw [e])
    simp [this]
set_option maxHeartbeats 1000000 in
theorem LentInts_calls (A : Option Addr) (xs : List Int) (c : Nat) (w : World) (h : (Kd.int .i64).C w A xs.length xs) (hc : xs.length ≤ c) (hl : xs.length * 8 ≤ 140737488351232) :
    Calls Try.prog 40 #[.slice A xs.length c] w fun e w' => ∃ v, e = .returned v ∧ LentI w' w.heap.size v xs ∧ Below w.heap.size w w' := by
  have H := Aside0.mk h
  clear h
  go_enter Try.func40, Try.ntmps40
  go_wp2_with (first | ((with_reducible refine gate_builtin (b := .append) (xs := #[.tmp 4, .tmp 5]) rfl ?_); at_builtin; refine Lx.append_row (w0 := w) .i64 w.heap.size rfl (.tmp 4) (.tmp 5) 52 3 8 rfl Try.underlying52 info3 (by decide) (.slice none 0 0) [] xs A xs.length c rfl rfl (Lx.nil _ _ _ _) H.out (Below.refl _ _) (Nat.le_refl _) (by simp; omega) ?_; intro v1 w1 ho hb hg hat; rw [List.nil_append] at ho; have HO1 := Aside0.mk ho; have HB1 := Aside0.mk hb; clear ho hb hg hat) | ((with_reducible refine gate_builtin (b := .append) (xs := #[.tmp 7, .tmp 8]) rfl ?_); at_builtin; refine Lx.append_one (w0 := w) .i64 w.heap.size rfl (.tmp 7) (.tmp 8) 52 3 8 rfl Try.underlying52 info3 (by decide) v1 xs (-7171) rfl rfl HO1.out HB1.out HB1.out.size (by omega) ?_; intro v2 w2 ho hb hg hat; obtain ⟨A2, c2, rfl, hc2, _⟩ := ho.reads; rw [List.length_append, List.length_singleton] at hc2; rw [List.length_append, List.length_singleton] at ho; have HO2 := Aside0.mk ho; have HB2 := Aside0.mk hb; clear ho hb hg hat))
  go_ret
  exact ⟨_, rfl, ⟨A2, c2, rfl, hc2, HO2.out⟩, HB2.out⟩
set_option maxHeartbeats 1000000 in
theorem KeptInts_calls (A A1 : Option Addr) (xs : List Int) (c c1 base : Nat) (w : World) (h : LentI w base (.slice A xs.length c) xs) (h1 : (Kd.int .i64).C w A1 xs.length xs) (hc1 : xs.length ≤ c1) (hl : xs.length * 8 ≤ 140737488351232) :
    Calls Try.prog 49 #[.slice A xs.length c, .slice A1 xs.length c1] w fun e w' => e = .returned (.bool true) ∧ Drawn0 w w' := by
  obtain ⟨_, hc, hC, ad, rfl, hcell⟩ := h.reads
  have hm := Kd.C_max hC
  have HI : Aside0 (Calls Try.prog 27 #[.slice (some ad) xs.length c, .slice A1 xs.length c1] w fun e w' => e = .returned (.bool true) ∧ Drawn0 w w') := ⟨(Ints_calls (some ad) A1 c c1 xs xs w hC (by omega) h1 hc1).mono fun e w' h => ⟨by rw [h.1, decide_eq_true rfl], h.2⟩⟩
  have hnn : xs.length < xs.length + 1 := by omega
  obtain ⟨n, hn⟩ : ∃ n, xs.length = n := ⟨_, rfl⟩
  rw [hn] at hc hm HI hcell hnn hl ⊢
  clear h hC h1 hc1 hn
  go_enter Try.func49, Try.ntmps49
  go_wp2_with (go_at_call 27; ((with_reducible refine HI.out.mono ?_)); rintro e w1 ⟨rfl, hd⟩; obtain ⟨kd, rfl⟩ := hd.out)
  go_ret
  exact ⟨rfl, ⟨kd, rfl⟩⟩
end Go.Proofs.Ytimlgpfcgklddaa.P
/-
Posts lent with a mark behind them.
-/
namespace Go.Proofs.Ytimlgpfcgklddaa
open Go.RowKit Go.Proofs.YtimlgpfcgklddaaW.PrintWords
set_option linter.unusedVariables false
def lpR (w : World) (base : Nat) : Option P.S58 → List Value → Prop
  | some p, cs => ∃ v1, cs = [.int .i64 p.f0, v1] ∧ LentI w base v1 p.f1
  | none, cs => cs = [.int .i64 (-71), .slice none 0 0]
def Ox (w : World) (base : Nat) (v : Value) (ps : List (Option P.S58)) : Prop := ∃ cs, Lax w base 58 2 v ps.length cs ∧ Reps (lpR w base) 2 ps cs
/-- Posts of one's own, lent with a mark behind them. -/
def LentP (w : World) (base : Nat) (v : Value) (l : List P.S58) : Prop := ∃ A c, v = .slice A l.length c ∧ l.length + 1 ≤ c ∧ Ox w base (.slice A (l.length + 1) c) (l.map some ++ [none])
theorem lpR_step {w w1 : World} {base : Nat} (hI : ∀ v xs, LentI w base v xs → LentI w1 base v xs) : ∀ {p c}, lpR w base p c → lpR w1 base p c
  | some p, c, ⟨v1, e, h⟩ => ⟨v1, e, hI _ _ h⟩
  | none, c, h => h
namespace Ox
theorem nil (w : World) (base : Nat) : Ox w base (.slice none 0 0) [] := ⟨[], Lax.nil w base 58 2, Reps.none _ _⟩
theorem below {w w1 : World} {base : Nat} {v : Value} {ps : List (Option P.S58)} (h : Ox w base v ps) (hb : Below w.heap.size w w1) : Ox w1 base v ps := by
  obtain ⟨cs, h1, h2⟩ := h
  exact ⟨cs, h1.below hb, h2.imp_ fun p c h => lpR_step (fun v xs hx => hx.below hb) h⟩
theorem run_row {Pg : Program} {W : World} (base : Nat) (t ty : TypeId)
    (ht : Pg.underlying t = some (.slice 58)) (hinfo : (Pg.info? 58).map (fun i => (i.zero, i.size, i.bytes)) = some (some (.agg #[(.int .i64 0), (.slice none 0 0)]), 2, 32))
    (v : Value) (xs : List (Option P.S58)) (y : Option P.S58) (a b : Value) (gN : Nat) (hnew : W.heap[gN]? = some (.cells #[a, b] 58 (0, 0)))
    (HO : Ox W base v xs) (HY : lpR W base y [a, b]) (hbase : base ≤ W.heap.size) (hl : (xs.length + 1) * 32 ≤ 140737488355328) :
    ∃ v1 w1, (Builtin.append_ #[t, t] ty #[v, .slice (some ⟨gN, 0, none⟩) 1 1]).run Pg W = .ok v1 w1 ∧ Ox w1 base v1 (xs ++ [y]) ∧ W.grownBy w1 v.ownBlock := by
  obtain ⟨i0, hi, hzz⟩ := Option.map_eq_some_iff.1 hinfo
  simp only [Prod.mk.injEq] at hzz
  obtain ⟨hz0, hz1, hz2⟩ := hzz
  obtain ⟨cs, HO', hr⟩ := HO
  have hone : ∀ u ∈ [a, b], u.oneCell' = true := by
    cases y with
    | none => rw [show [a, b] = _ from HY]; intro u hu; simp only [List.mem_cons, List.not_mem_nil, or_false] at hu; rcases hu with rfl | rfl <;> rfl
    | some p =>
      obtain ⟨v1, e, A, c, e2, _⟩ := HY
      rw [e]
      intro u hu
      simp only [List.mem_cons, List.not_mem_nil, or_false] at hu
      rcases hu with rfl | rfl
      · rfl
      · rw [e2]; rfl
  obtain ⟨v1, w1, hrun, h2, hg, hat⟩ := Lax.run_append (P := Pg) W base t ty 58 i0 _ 2 32 ht hi hz0 hz1 hz2 rfl (by omega) v xs.length cs HO' ⟨gN, 0, none⟩ 1 1 [a, b] rfl
    (fun j u' hu => by rw [add_plain, blk_cell hnew j]; simpa using hu) hone (by simp only [maxLen]; omega) hl hbase
  have hne : ∀ {p c}, lpR W base p c → lpR w1 base p c := lpR_step fun u xs' hx => hx.grown hg fun k cells e hk => by
    obtain ⟨c2, h2⟩ := HO'.typed k e
    exact block_ne h2 hk (by decide)
  exact ⟨v1, w1, hrun, ⟨cs ++ [a, b], by rw [List.length_append]; exact h2, reps_append (hr.imp_ fun p c => hne) ⟨rfl, fun j p hj => by
    match j with
    | 0 => simp only [List.getElem?_cons_zero, Option.some.injEq] at hj; subst hj; exact hne HY
    | j + 1 => simp at hj⟩⟩, hg⟩
section
variable {Pg : Program} {ops : Array Oper} {rest : List Oper} {o : Oper} {a : Act} {Q : Exit → Act → World → Prop} {K : Act → World → Prop}
theorem append_step {w0 W : World} (base : Nat) (hw : Region.wanted o (yielded ops a.tmps) = true) (s x : Operand) (t : TypeId)
    (ho : o.op = .call { callee := .builtin .append, args := #[s, x], argTypes := #[t, t] })
    (ht : Pg.underlying t = some (.slice 58)) (hinfo : (Pg.info? 58).map (fun i => (i.zero, i.size, i.bytes)) = some (some (.agg #[(.int .i64 0), (.slice none 0 0)]), 2, 32))
    (v : Value) (xs : List (Option P.S58)) (y : Option P.S58) (u0 u1 : Value) (gN : Nat) (hs : a.eval s = v) (hx : a.eval x = .slice (some ⟨gN, 0, none⟩) 1 1)
    (hnew : W.heap[gN]? = some (.cells #[u0, u1] 58 (0, 0)))
    (HO : Ox W base v xs) (HY : lpR W base y [u0, u1]) (HB : Below base w0 W) (hbase : base ≤ W.heap.size) (hl : (xs.length + 1) * 32 ≤ 140737488355328)
    (h : ∀ v1 w1, Ox w1 base v1 (xs ++ [y]) → Below base w0 w1 → K (a.put o.dst v1) w1) :
    if Region.wanted o (yielded ops a.tmps) = true then Oper.wp Pg o a W K Q else K (a.put o.dst undef) W := by
  rw [if_pos hw]
  obtain ⟨v1, w1, hrun, hown, hg⟩ := run_row (Pg := Pg) base t o.type ht hinfo v xs y u0 u1 gN hnew HO HY hbase hl
  obtain ⟨cs, HO', hr⟩ := HO
  unfold Oper.wp execOp
  simp only [ho, resolve, invoke, builtin, Sem.run_bind, Sem.run_pure, Result.andThen_ok, List.map_toArray, List.map_cons, List.map_nil, hs, hx, hrun]
  exact h v1 w1 hown (HB.grown hg hbase (fun k hk => HO'.base_le k hk))
theorem append_one {w0 W : World} (base : Nat) (hgd : o.guard = none) (s x : Operand) (t : TypeId)
    (ho : o.op = .call { callee := .builtin .append, args := #[s, x], argTypes := #[t, t] })
    (ht : Pg.underlying t = some (.slice 58)) (hinfo : (Pg.info? 58).map (fun i => (i.zero, i.size, i.bytes)) = some (some (.agg #[(.int .i64 0), (.slice none 0 0)]), 2, 32))
    (v : Value) (xs : List (Option P.S58)) (y : Option P.S58) (u0 u1 : Value) (gN : Nat) (hs : a.eval s = v) (hx : a.eval x = .slice (some ⟨gN, 0, none⟩) 1 1)
    (hnew : W.heap[gN]? = some (.cells #[u0, u1] 58 (0, 0)))
    (HO : Ox W base v xs) (HY : lpR W base y [u0, u1]) (HB : Below base w0 W) (hbase : base ≤ W.heap.size) (hl : (xs.length + 1) * 32 ≤ 140737488355328)
    (h : ∀ v1 w1, Ox w1 base v1 (xs ++ [y]) → Below base w0 w1 → wpList Pg ops Q rest (a.put o.dst v1) w1) : wpList Pg ops Q (o :: rest) a W := by
  obtain ⟨v1, w1, hrun, hown, hg⟩ := run_row (Pg := Pg) base t o.type ht hinfo v xs y u0 u1 gN hnew HO HY hbase hl
  obtain ⟨cs, HO', hr⟩ := HO
  refine wpList_plain hgd fun K hK => ?_
  unfold Oper.wp execOp
  simp only [ho, resolve, invoke, builtin, Sem.run_bind, Sem.run_pure, Result.andThen_ok, List.map_toArray, List.map_cons, List.map_nil, hs, hx, hrun]
  exact hK _ _ (h v1 w1 hown (HB.grown hg hbase (fun k hk => HO'.base_le k hk)))
end
end Ox
theorem LentP.below {w w1 : World} {base : Nat} {v : Value} {l : List P.S58} (h : LentP w base v l) (hb : Below w.heap.size w w1) : LentP w1 base v l := by
  obtain ⟨A, c, e, hc, hx⟩ := h
  exact ⟨A, c, e, hc, hx.below hb⟩
/-- What lies at place i. -/
theorem LentP.at_ {w : World} {base : Nat} {A : Option Addr} {n c : Nat} {l : List P.S58} (h : LentP w base (.slice A n c) l) : n = l.length ∧ n + 1 ≤ c ∧ ∃ ad, A = some ad ∧ (∀ i p, l[i]? = some p → ∃ A1 c1, w.cell? (ad.add (i * 2)) = some (.int .i64 p.f0) ∧ w.cell? ⟨(ad.add (i * 2)).block, (ad.add (i * 2)).off + 1, none⟩ = some (.slice A1 p.f1.length c1) ∧ LentI w base (.slice A1 p.f1.length c1) p.f1) ∧ w.cell? (ad.add (l.length * 2)) = some (.int .i64 (-71)) := by
  obtain ⟨A', c', e, hc, cs, h1, h2⟩ := h
  injection e with e1 e2 e3
  subst e1; subst e2; subst e3
  refine ⟨rfl, hc, ?_⟩
  rcases h1.2 with ⟨he, hn⟩ | ⟨g, cap, cur, he, hb, hg, hn, hcc, hs, ht⟩
  · simp at hn
  · injection he with he he2 he3
    subst he
    have hcell : ∀ i (p : Option P.S58) (u : List Value), (l.map some ++ [none])[i]? = some p → ((cs.drop (i * 2)).take 2) = u → ∀ j z, u[j]? = some z → w.cell? ((⟨g, 0, none⟩ : Addr).add (i * 2 + j)) = some z := by
      intro i p u _ hu j z hz
      rw [← hu, List.getElem?_take] at hz
      split at hz
      · rw [List.getElem?_drop] at hz
        exact h1.cells (g := g) rfl _ z hz
      · cases hz
    refine ⟨⟨g, 0, none⟩, rfl, fun i p hp => ?_, ?_⟩
    · have hlt := (List.getElem?_eq_some_iff.1 hp).1
      have hp2 : (l.map some ++ [none])[i]? = some (some p) := by rw [List.getElem?_append_left (by rw [List.length_map]; exact hlt), List.getElem?_map, hp]; rfl
      obtain ⟨v1, e1, hI⟩ := h2.2 i _ hp2
      obtain ⟨A1, c1, rfl, hc1, hx1⟩ := hI
      have hk := hcell i _ _ hp2 e1
      exact ⟨A1, c1, hk 0 _ rfl, by rw [← add_field _ _ 1 (by omega)]; exact hk 1 _ rfl, A1, c1, rfl, hc1, hx1⟩
    · have hp2 : (l.map some ++ [none])[l.length]? = some none := by rw [List.getElem?_append_right (by rw [List.length_map]; exact Nat.le_refl _), List.length_map, Nat.sub_self]; rfl
      have e1 := h2.2 _ _ hp2
      exact hcell _ _ _ hp2 e1 0 _ rfl
theorem LentP.reads {w : World} {base : Nat} {A : Option Addr} {n c : Nat} {l : List P.S58} (h : LentP w base (.slice A n c) l) (hn : n ≤ 9223372036854775807) : n = l.length ∧ n + 1 ≤ c ∧ Kd.C P.k58 w A l.length l := by
  obtain ⟨h1, h2, ad, rfl, h3, _⟩ := h.at_
  refine ⟨h1, h2, rfl, by omega, fun hp => ⟨ad, rfl, fun j p hj => ?_⟩⟩
  obtain ⟨A1, c1, hc0, hc1, hI⟩ := h3 j p hj
  obtain ⟨_, hle, hC, _⟩ := hI.reads
  refine ⟨[.int .i64 p.f0, .slice A1 p.f1.length c1], rfl, P.k58_mk w p (by omega) hC, fun i u hu => ?_⟩
  match i with
  | 0 => simp only [List.getElem?_cons_zero, Option.some.injEq] at hu; subst hu; exact hc0
  | 1 =>
    simp only [List.getElem?_cons_succ, List.getElem?_cons_zero, Option.some.injEq] at hu
    subst hu
    show w.cell? (ad.add (j * 2 + 1)) = _
    rw [add_field _ _ 1 (by omega)]
    exact hc1
  | i + 2 => simp at hu
end Go.Proofs.Ytimlgpfcgklddaa
/-
The law's lent: posts in memory of their own, with marks.
-/
namespace Go.Proofs.Ytimlgpfcgklddaa.P
open Go.RowKit Go.Shelf Go.Proofs.YtimlgpfcgklddaaW.PrintWords Go.Proofs.YtimlgpfcgklddaaW.PrintLast Go.Proofs.YtimlgpfcgklddaaW.PrintMore
set_option linter.unusedVariables false
set_option linter.unusedSimpArgs false
set_option maxRecDepth 100000 in
set_option maxHeartbeats 2000000 in
theorem lent_calls (A : Option Addr) (l : List S58) (c : Nat) (w : World) (h : Kd.C k58 w A l.length l) (hc : l.length ≤ c) (hl : l.length ≤ 200) (hp : ∀ p ∈ l, p.f1.length * 8 ≤ 140737488351232) :
    Calls Try.prog 9 #[.slice A l.length c] w fun e w' => ∃ v, e = .returned v ∧ LentP w' w.heap.size v l ∧ Below w.heap.size w w' := by
  have H := Aside0.mk h
  have HPL := Aside0.mk hp
  clear h hp
  go_enter Try.func9, Try.ntmps9
  go_wp2
  go_loopg [3, 4] l.length (fun kq v3 v4 w' => ∃ k : Nat, v4 = .int .i64 k ∧ Aside0 (k ≤ l.length) ∧ Aside0 (Ox w' w.heap.size v3 ((l.take k).map some)) ∧ Aside0 (Below w.heap.size w w') ∧ Aside0 (l.length - k ≤ kq))
  case atStart => exact ⟨0, rfl, ⟨Nat.zero_le _⟩, ⟨Ox.nil _ _⟩, ⟨Below.refl _ _⟩, ⟨Nat.le_refl _⟩⟩
  case round =>
    obtain ⟨k, rfl, hk, HO, HB, HK⟩ := hrel
    have hkk := hk.out
    by_cases hlt : k < l.length
    · obtain ⟨ad, A1, c1, rfl, hx0, hx1, hl1, hC1⟩ := at_T58 H.out (k : Int) (by omega) (by omega)
      rw [Int.toNat_natCast] at hx0 hx1
      have he : rd_T58 l (k : Int) = l[k] := by unfold rd_T58; rw [Int.toNat_natCast]; simp [hlt]
      rw [he] at hx0 hx1 hl1 hC1
      have hpp := HPL.out _ (List.getElem_mem hlt)
      have htk : (l.take (k + 1)).map some = (l.take k).map some ++ [some l[k]] := by
        rw [List.take_succ_eq_append_getElem hlt, List.map_append]
        rfl
      obtain ⟨p, hpe⟩ : ∃ p, l[k] = p := ⟨_, rfl⟩
      rw [hpe] at hx0 hx1 hl1 hC1 hpp htk
      have HC1 := Aside0.mk hC1
      have HTK := Aside0.mk htk
      have HX0 := Aside0.mk hx0
      have HX1 := Aside0.mk hx1
      have hy0 : wr.drew.cell? (ad.add (k * 2)) = _ := pw_cell_below (below_drew HB.out) hx0
      have hy1 : wr.drew.cell? ⟨(ad.add (k * 2)).block, (ad.add (k * 2)).off + 1, none⟩ = _ := pw_cell_below (below_drew HB.out) hx1
      have hLen : ((l.take k).map some).length ≤ 200 := by rw [List.length_map, List.length_take]; omega
      obtain ⟨os, hos⟩ : ∃ os, (l.take k).map some = os := ⟨_, rfl⟩
      rw [hos] at HO HTK hLen
      clear hC1 htk he hpe hx0 hx1 hos
      go_cut [3, 4] from 5 to 25 (fun v3 v4 w7 => v4 = .int .i64 ((k : Int) + 1) ∧ Aside0 (Ox w7 w.heap.size v3 (os ++ [some p])) ∧ Aside0 (Below w.heap.size w w7))
      case first =>
        go_wp2
        go_region_held3 (fun w' => w'.cell? (ad.add (k * 2)) = some (.int .i64 p.f0) ∧ w'.cell? ⟨(ad.add (k * 2)).block, (ad.add (k * 2)).off + 1, none⟩ = some (.slice A1 p.f1.length c1)) (first | with_reducible exact ⟨hy0, hy1⟩ | with_reducible exact ⟨hz0, hz1⟩ | with_reducible exact ⟨ha0, ha1⟩ | with_reducible exact ⟨hb0, hb1⟩) (first | (go_at_call 40; ((with_reducible refine (LentInts_calls A1 p.f1 c1 _ (Kd.C_below HC1.out (below_drew HB.out)) hl1 hpp).mono ?_)); rintro e w5 ⟨v5, rfl, hv5, hb5⟩; obtain ⟨A5, c5, rfl, _, _⟩ := id hv5; have hB5 : Below w.heap.size w w5 := HB.out.trans ((show Below wr.heap.size wr w5 from ⟨hb5.os, hb5.tape, hb5.output, hb5.size, hb5.block⟩).mono HB.out.size); have HV5 := Aside0.mk (LentI.lower hv5 (show w.heap.size ≤ wr.drew.heap.size from HB.out.size)); have HO5 := Aside0.mk (Ox.below HO.out (show Below wr.heap.size wr w5 from ⟨hb5.os, hb5.tape, hb5.output, hb5.size, hb5.block⟩)); have HB5 := Aside0.mk hB5; have hz0 : w5.cell? (ad.add (k * 2)) = some (.int .i64 p.f0) := pw_cell_below hB5 HX0.out; have hz1 : w5.cell? ⟨(ad.add (k * 2)).block, (ad.add (k * 2)).off + 1, none⟩ = some (.slice A1 p.f1.length c1) := pw_cell_below hB5 HX1.out; have ha0 : (w5.alloc (.cells #[.int .i64 p.f0, .slice A5 p.f1.length c5] 58)).cell? (ad.add (k * 2)) = some (.int .i64 p.f0) := pw_cell_below (below_alloc hB5 _) HX0.out; have ha1 : (w5.alloc (.cells #[.int .i64 p.f0, .slice A5 p.f1.length c5] 58)).cell? ⟨(ad.add (k * 2)).block, (ad.add (k * 2)).off + 1, none⟩ = some (.slice A1 p.f1.length c1) := pw_cell_below (below_alloc hB5 _) HX1.out; clear hv5 hb5 hB5) | (refine Ox.append_step (w0 := w) w.heap.size (by rfl) (.tmp 11) (.tmp 24) 22 rfl Try.underlying22 info58 u3 os (some p) (.int .i64 p.f0) (.slice A5 p.f1.length c5) w5.heap.size rfl rfl (blk_new w5 _) (Ox.below HO5.out (below_alloc (Below.refl _ _) _)) ⟨_, rfl, LentI.below HV5.out (below_alloc (Below.refl _ _) _)⟩ (below_alloc HB5.out _) (Below.size (below_alloc HB5.out _)) (by omega) ?_; intro v6 w6 ho hb; have hb0 : w6.cell? (ad.add (k * 2)) = some (.int .i64 p.f0) := pw_cell_below hb HX0.out; have hb1 : w6.cell? ⟨(ad.add (k * 2)).block, (ad.add (k * 2)).off + 1, none⟩ = some (.slice A1 p.f1.length c1) := pw_cell_below hb HX1.out; have HO6 := Aside0.mk ho; have HB6 := Aside0.mk hb; clear ho hb))
        all_goals (
          go_wp2_with fail
          go_meet
          exact ⟨rfl, HO6, HB6⟩)
      case rest =>
        obtain ⟨rfl, HO7, HB7⟩ := hcut
        go_wp2
        go_roundg (l.length - (k + 1))
        case measure => have := HK.out; omega
        case rel => exact ⟨k + 1, by first | rfl | (simp; done), ⟨hlt⟩, ⟨by rw [HTK.out]; exact HO7.out⟩, HB7, ⟨Nat.le_refl _⟩⟩
    · have hke : k = l.length := by omega
      have htk : l.take k = l := by rw [hke, List.take_length]
      rw [htk] at HO
      have hLen : (l.map some).length ≤ 200 := by rw [List.length_map]; exact hl
      have hLn : (l.map some ++ [(none : Option S58)]).length = l.length + 1 := by rw [List.length_append, List.length_map]; rfl
      obtain ⟨os, hos⟩ : ∃ os, l.map some = os := ⟨_, rfl⟩
      rw [hos] at HO hLen hLn
      have HOS := Aside0.mk hos
      have HLN := Aside0.mk hLn
      clear htk hos hLn
      go_wp2_with ((with_reducible refine gate_builtin (b := .append) (xs := #[.tmp 26, .tmp 28]) rfl ?_); at_builtin; refine Ox.append_one (w0 := w) w.heap.size rfl (.tmp 26) (.tmp 28) 22 rfl Try.underlying22 info58 u3 os none (.int .i64 (-71)) (.slice none 0 0) wr.heap.size rfl rfl (blk_new wr _) (Ox.below HO.out (below_alloc (Below.refl _ _) _)) rfl (below_alloc HB.out _) (Below.size (below_alloc HB.out _)) (by omega) ?_; intro v6 w6 ho hb; obtain ⟨A6, c6, rfl, hc6⟩ : ∃ A c, v6 = .slice A (l.length + 1) c ∧ l.length + 1 ≤ c := (by obtain ⟨cs, h1, _⟩ := ho; rw [HLN.out] at h1; exact h1.slice); have HO6 := Aside0.mk ho; have HB6 := Aside0.mk hb; clear ho hb)
      go_ret
      exact ⟨_, rfl, ⟨A6, c6, rfl, hc6, by rw [HOS.out]; exact HO6.out⟩, HB6.out⟩
end Go.Proofs.Ytimlgpfcgklddaa.P
/-
The law's kept: lent posts are as they were.
-/
namespace Go.Proofs.Ytimlgpfcgklddaa.P
open Go.RowKit Go.Shelf Go.Proofs.YtimlgpfcgklddaaW.PrintWords Go.Proofs.YtimlgpfcgklddaaW.PrintLast Go.Proofs.YtimlgpfcgklddaaW.PrintMore
set_option linter.unusedVariables false
set_option linter.unusedSimpArgs false
set_option maxRecDepth 100000 in
set_option maxHeartbeats 2000000 in
theorem kept_calls (A A2 : Option Addr) (l : List S58) (c c2 base : Nat) (w : World) (h : Kd.C k58 w A l.length l) (hc : l.length ≤ c) (hl : l.length ≤ 200) (hp : ∀ p ∈ l, p.f1.length * 8 ≤ 140737488351232) (hi : LentP w base (.slice A2 l.length c2) l) :
    Calls Try.prog 14 #[.slice A2 l.length c2, .slice A l.length c] w fun e w' => e = .returned (.bool true) ∧ Below w.heap.size w w' := by
  have H := Aside0.mk h
  have HPL := Aside0.mk hp
  obtain ⟨_, hc2, ad2, rfl, hel, hend⟩ := hi.at_
  have HEL := Aside0.mk hel
  have HEND := Aside0.mk hend
  clear h hp hi hel hend
  go_enter Try.func14, Try.ntmps14
  go_wp2
  go_loopg [5] l.length (fun kq v5 w' => ∃ k : Nat, v5 = .int .i64 k ∧ Aside0 (k ≤ l.length) ∧ Aside0 (Below w.heap.size w w') ∧ Aside0 (l.length - k ≤ kq))
  case atStart => exact ⟨0, rfl, ⟨Nat.zero_le _⟩, ⟨Below.refl _ _⟩, ⟨Nat.le_refl _⟩⟩
  case round =>
    obtain ⟨k, rfl, hk, HB, HK⟩ := hrel
    have hkk := hk.out
    by_cases hlt : k < l.length
    · obtain ⟨ad, A1, c1, rfl, hx0, hx1, hl1, hC1⟩ := at_T58 H.out (k : Int) (by omega) (by omega)
      rw [Int.toNat_natCast] at hx0 hx1
      have he : rd_T58 l (k : Int) = l[k] := by unfold rd_T58; rw [Int.toNat_natCast]; simp [hlt]
      rw [he] at hx0 hx1 hl1 hC1
      have hpp := HPL.out _ (List.getElem_mem hlt)
      obtain ⟨A3, c3, hy0, hy1, hI⟩ := HEL.out k _ (List.getElem?_eq_getElem hlt)
      obtain ⟨p, hpe⟩ : ∃ p, l[k] = p := ⟨_, rfl⟩
      rw [hpe] at hx0 hx1 hl1 hC1 hpp hy0 hy1 hI
      have HKI : Aside0 (∀ m, Calls Try.prog 49 #[.slice A3 p.f1.length c3, .slice A1 p.f1.length c1] (wr.drewN m) fun e w' => e = .returned (.bool true) ∧ ∃ n, w' = wr.drewN n) := ⟨fun m => by
        have hbm : Below wr.heap.size wr (wr.drewN m) := pw_below_drewN (Below.refl _ _) m
        have := KeptInts_calls A3 A1 p.f1 c3 c1 base (wr.drewN m) ((hI.below HB.out).below hbm) (Kd.C_below (Kd.C_below hC1 HB.out) hbm) hl1 hpp
        exact this.mono fun e w' h => ⟨h.1, by obtain ⟨n, rfl⟩ := h.2.out; exact (Drawn0.step ⟨⟨m, rfl⟩⟩ n).out⟩⟩
      replace hx0 := pw_cell_below HB.out hx0
      replace hx1 := pw_cell_below HB.out hx1
      replace hy0 := pw_cell_below HB.out hy0
      replace hy1 := pw_cell_below HB.out hy1
      clear he hpe hC1 hI hpp
      go_wp2
      go_big_quiet (first | (go_at_call 49; ((with_reducible refine (HKI.out _).mono ?_)); rintro e w6 ⟨rfl, kd, rfl⟩; exact ⟨rfl, _, rfl⟩))
      go_wp2
      go_roundg (l.length - (k + 1))
      case measure => have := HK.out; omega
      case rel => exact ⟨k + 1, by first | rfl | (simp; done), ⟨hlt⟩, ⟨HB.out.trans ((pw_below_drewN (Below.refl _ _) nq).mono HB.out.size)⟩, ⟨Nat.le_refl _⟩⟩
    · have hke : k = l.length := by omega
      have hz := pw_cell_below HB.out HEND.out
      obtain ⟨n, hn⟩ : ∃ n, l.length = n := ⟨_, rfl⟩
      rw [hn] at hz hc2 hl hkk hlt hc ⊢
      go_wp2
      go_ret
      exact ⟨rfl, HB.out⟩
end Go.Proofs.Ytimlgpfcgklddaa.P
