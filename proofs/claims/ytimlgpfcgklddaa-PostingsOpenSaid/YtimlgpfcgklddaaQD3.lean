/-
Texts of this seat, laid together: D3, D4.
-/
import Derived.Test.YtimlgpfcgklddaaQO5
namespace Go.Proofs.Ytimlgpfcgklddaa.P
open Go.RowKit Go.Shelf Go.Proofs.YtimlgpfcgklddaaW.PrintWords Go.Proofs.YtimlgpfcgklddaaW.PrintLast Go.Proofs.YtimlgpfcgklddaaW.PrintMore
set_option linter.unusedVariables false
set_option linter.unusedSimpArgs false
/-- The blocks that block.posts holds: its parameter, the bytes that are left. -/
structure Hold (w W : World) (A : Option Addr) (m c : Nat) (ahead last : Int) (n : Nat) (A' : Option Addr) (m' c' : Nat) : Prop where
  st : W.heap[w.heap.size]? = some (.cells #[.slice A m c, .int .i64 ahead, .int .i64 last, .int .i64 n] 96 (0, 0))
  bx : W.heap[w.heap.size + 1]? = some (.cells #[.slice A' m' c'] 25 (0, 0))
  below : Below w.heap.size w W
theorem Hold.took {w W W' : World} {A : Option Addr} {m c : Nat} {ahead last : Int} {n : Nat} {A' : Option Addr} {m' c' : Nat} (h : Hold w W A m c ahead last n A' m' c') (hg : W.grownBy W' (some (w.heap.size + 1))) {A'' : Option Addr} {m'' c'' : Nat} (hb : W'.heap[w.heap.size + 1]? = some (.cells #[.slice A'' m'' c''] 25 (0, 0))) : Hold w W' A m c ahead last n A'' m'' c'' :=
  ⟨blk_grown h.st hg (by intro e; injection e; omega), hb, h.below.grown hg h.below.size (fun k e => by injection e; omega)⟩
theorem Hold.new (w : World) (A : Option Addr) (m c : Nat) (ahead last : Int) (n : Nat) : Hold w ((w.alloc (Obj.cells #[Value.slice A m c, Value.int IntKind.i64 ahead, Value.int IntKind.i64 last, Value.int IntKind.i64 ↑n] 96)).alloc (Obj.cells #[Value.slice A m c] 25)) A m c ahead last n A m c :=
  ⟨blk_alloc (blk_new w _) _, by
    have := blk_new (w.alloc (Obj.cells #[Value.slice A m c, Value.int IntKind.i64 ahead, Value.int IntKind.i64 last, Value.int IntKind.i64 ↑n] 96)) (Obj.cells #[Value.slice A m c] 25)
    simpa using this, below_alloc (below_alloc (Below.refl _ _) _) _⟩
theorem Lx.took {W W' : World} {base base' B : Nat} {cells : Array Value} {v : Value} {l : List Int} (h : Lx .i64 2 W base v l) (hx : W.heap[B]? = some (.cells cells 25 (0, 0))) (hg : W.grownBy W' (some B)) (hb : base' ≤ base) : Lx .i64 2 W' base' v l :=
  Lax.lower (Lax.grown h hg fun j hj ej => by
    obtain ⟨cells', hc⟩ := Lax.typed h j hj
    injection ej with ej
    subst ej
    rw [hx] at hc
    injection hc with hc
    injection hc with _ hc
    exact absurd hc (by decide)) hb
theorem drop_rd (l : List Int) (k : Nat) (h : k < l.length) : l.drop k = rd l k :: l.drop (k + 1) := by
  rw [List.drop_eq_getElem_cons h]
  unfold rd
  rw [Int.toNat_natCast, List.getD_eq_getElem?_getD, List.getElem?_eq_getElem h]
  rfl
theorem sumF_nonneg : ∀ (l : List Int), (∀ f ∈ l, 0 ≤ f) → 0 ≤ sumF l
  | [], _ => by simp [sumF]
  | x :: r, h => by
    have h1 := h x (List.mem_cons_self ..)
    have h2 := sumF_nonneg r fun f hf => h f (List.mem_cons_of_mem _ hf)
    simp only [sumF, List.map_cons, List.sum_cons] at h2 ⊢
    omega
end Go.Proofs.Ytimlgpfcgklddaa.P
namespace Go.Proofs.Ytimlgpfcgklddaa
open Go.RowKit Go.Proofs.YtimlgpfcgklddaaW.PrintWords
/-- A block: its rows, the documents ahead of it and at its end, how many posts. -/
structure Blk where
  b : List Int
  ahead : Int
  last : Int
  n : Nat
def blkR (w : World) (base : Nat) (p : Blk) (cs : List Value) : Prop := ∃ v1, cs = [v1, .int .i64 p.ahead, .int .i64 p.last, .int .i64 p.n] ∧ Lx .u8 5 w base v1 p.b
def Bx (w : World) (base : Nat) (v : Value) (ps : List Blk) : Prop := ∃ cs, Lax w base 96 4 v ps.length cs ∧ Reps (blkR w base) 4 ps cs
theorem reps_append {α : Type} {R : α → List Value → Prop} {size : Nat} {ps qs : List α} {cs ds : List Value} (h : Reps R size ps cs) (k : Reps R size qs ds) : Reps R size (ps ++ qs) (cs ++ ds) := by
  refine ⟨by rw [List.length_append, List.length_append, h.1, k.1, Nat.add_mul], fun j p hj => ?_⟩
  rcases Nat.lt_or_ge j ps.length with hlt | hge
  · rw [List.getElem?_append_left hlt] at hj
    have h7 : j * size + size ≤ cs.length := by rw [h.1, ← Nat.succ_mul]; exact Nat.mul_le_mul_right _ hlt
    rw [List.drop_append_of_le_length (by omega), List.take_append_of_le_length (by rw [List.length_drop]; omega)]
    exact h.2 j p hj
  · rw [List.getElem?_append_right hge] at hj
    rw [List.drop_append, List.drop_eq_nil_of_le (by rw [h.1]; exact Nat.mul_le_mul_right _ hge), List.nil_append, h.1, ← Nat.sub_mul]
    exact k.2 _ p hj
theorem block_ne {w : World} {j : Nat} {c1 c2 : Array Value} {t1 t2 : TypeId} (h1 : w.heap[j]? = some (.cells c1 t1 (0, 0))) (h2 : w.heap[j]? = some (.cells c2 t2 (0, 0))) (hne : t1 ≠ t2) : False := by
  rw [h1] at h2
  injection h2 with h2
  injection h2 with _ h2
  exact hne h2
namespace Bx
section
variable {w w1 : World} {base : Nat} {v : Value} {ps : List Blk}
theorem nil (w : World) (base : Nat) : Bx w base (.slice none 0 0) [] := ⟨[], Lax.nil w base 96 4, Reps.none _ _⟩
theorem below (h : Bx w base v ps) (hb : Below w.heap.size w w1) : Bx w1 base v ps := by
  obtain ⟨cs, h1, h2⟩ := h
  exact ⟨cs, h1.below hb, h2.imp_ fun p c ⟨v1, e, h⟩ => ⟨v1, e, Lx.below h hb⟩⟩
theorem grown (h : Bx w base v ps) {row : Option Nat} (hg : w.grownBy w1 row) (hne : ∀ k, row = some k → ∃ cells t, w.heap[k]? = some (.cells cells t (0, 0)) ∧ t ≠ 96 ∧ t ≠ 5) : Bx w1 base v ps := by
  obtain ⟨cs, h1, h2⟩ := h
  refine ⟨cs, h1.grown hg fun k hk e => ?_, h2.imp_ fun p c ⟨v1, e, h⟩ => ⟨v1, e, Lax.grown h hg fun k hk e => ?_⟩⟩
  · obtain ⟨cells, hc⟩ := h1.typed k hk
    obtain ⟨c2, t, h3, h4, h5⟩ := hne k e.symm
    exact block_ne h3 hc h4
  · obtain ⟨cells, hc⟩ := Lax.typed h k hk
    obtain ⟨c2, t, h3, h4, h5⟩ := hne k e.symm
    exact block_ne h3 hc h5
theorem block (h : Bx w base v ps) : ∀ k, v.ownBlock = some k → base ≤ k ∧ k < w.heap.size ∧ ∃ cells, w.heap[k]? = some (.cells cells 96 (0, 0)) := by
  obtain ⟨cs, h1, h2⟩ := h
  exact fun k hk => ⟨h1.base_le k hk, h1.lt k hk, h1.typed k hk⟩
theorem slice (h : Bx w base v ps) : ∃ A c, v = .slice A ps.length c ∧ ps.length ≤ c := by
  obtain ⟨cs, h1, h2⟩ := h
  exact h1.slice
/-- The cells of block i. -/
theorem at_ {A : Option Addr} {m c : Nat} (h : Bx w base (.slice A m c) ps) (i : Nat) (hi : i < ps.length) : ∃ ad A1 c1 p, A = some ad ∧ ps[i]? = some p ∧ w.cell? (ad.add (i * 4)) = some (.slice A1 p.b.length c1) ∧ w.cell? ⟨(ad.add (i * 4)).block, (ad.add (i * 4)).off + 1, none⟩ = some (.int .i64 p.ahead) ∧ w.cell? ⟨(ad.add (i * 4)).block, (ad.add (i * 4)).off + 2, none⟩ = some (.int .i64 p.last) ∧ w.cell? ⟨(ad.add (i * 4)).block, (ad.add (i * 4)).off + 3, none⟩ = some (.int .i64 p.n) ∧ p.b.length ≤ c1 ∧ (Kd.int .u8).C w A1 p.b.length p.b := by
  obtain ⟨cs, h1, h2⟩ := h
  rcases h1.2 with ⟨he, hn⟩ | ⟨g, cap, cur, he, hb, hg, hn, hc, hs, ht⟩
  · omega
  · injection he with he he2 he3
    subst he
    obtain ⟨v1, e1, hx⟩ := h2.2 i _ (List.getElem?_eq_getElem hi)
    obtain ⟨A1, c1, rfl, hl1, hC1⟩ := hx.reads
    have hcell : ∀ j u, ([.slice A1 (ps[i]).b.length c1, .int .i64 (ps[i]).ahead, .int .i64 (ps[i]).last, .int .i64 (ps[i]).n] : List Value)[j]? = some u → w.cell? ((⟨g, 0, none⟩ : Addr).add (i * 4 + j)) = some u := by
      intro j u hu
      rw [← e1, List.getElem?_take] at hu
      split at hu
      · rw [List.getElem?_drop] at hu
        exact h1.cells (g := g) rfl _ u hu
      · cases hu
    refine ⟨⟨g, 0, none⟩, A1, c1, ps[i], rfl, List.getElem?_eq_getElem hi, hcell 0 _ rfl, ?_, ?_, ?_, hl1, hC1⟩
    · rw [← add_field _ _ 1 (by omega)]; exact hcell 1 _ rfl
    · rw [← add_field _ _ 2 (by omega)]; exact hcell 2 _ rfl
    · rw [← add_field _ _ 3 (by omega)]; exact hcell 3 _ rfl
end
section
variable {Pg : Program} {ops : Array Oper} {rest : List Oper} {o : Oper} {a : Act} {Q : Exit → Act → World → Prop} {K : Act → World → Prop}
/-- append(v, y) in a region that draws its order; the box of the variadic lies in the goal's world. -/
theorem append_step {w0 W : World} (base : Nat) (hw : Region.wanted o (yielded ops a.tmps) = true) (s x : Operand) (t : TypeId)
    (ho : o.op = .call { callee := .builtin .append, args := #[s, x], argTypes := #[t, t] })
    (ht : Pg.underlying t = some (.slice 96)) (hinfo : (Pg.info? 96).map (fun i => (i.zero, i.size, i.bytes)) = some (some (.agg #[(.slice none 0 0), (.int .i64 0), (.int .i64 0), (.int .i64 0)]), 4, 48))
    (v : Value) (xs : List Blk) (y : Blk) (u : Value) (gN : Nat) (hs : a.eval s = v) (hx : a.eval x = .slice (some ⟨gN, 0, none⟩) 1 1)
    (hnew : W.heap[gN]? = some (.cells #[u, .int .i64 y.ahead, .int .i64 y.last, .int .i64 y.n] 96 (0, 0)))
    (HO : Bx W base v xs) (HY : Lx .u8 5 W base u y.b) (HB : Below base w0 W) (hbase : base ≤ W.heap.size) (hl : (xs.length + 1) * 48 ≤ 140737488355328)
    (h : ∀ v1 w1, Bx w1 base v1 (xs ++ [y]) → Below base w0 w1 → W.grownBy w1 v.ownBlock → K (a.put o.dst v1) w1) :
    if Region.wanted o (yielded ops a.tmps) = true then Oper.wp Pg o a W K Q else K (a.put o.dst undef) W := by
  obtain ⟨i0, hi, hzz⟩ := Option.map_eq_some_iff.1 hinfo
  simp only [Prod.mk.injEq] at hzz
  obtain ⟨hz0, hz1, hz2⟩ := hzz
  rw [if_pos hw]
  have hy1 : u.oneCell' = true := by obtain ⟨A', c', rfl, _⟩ := HY.reads; rfl
  have HOB := block HO
  obtain ⟨cs, HO', hr⟩ := HO
  obtain ⟨v1, w1, hrun, h2, hg, hat⟩ := Lax.run_append (P := Pg) W base t o.type 96 i0 _ 4 48 ht hi hz0 hz1 hz2 rfl (by omega) v xs.length cs HO' ⟨gN, 0, none⟩ 1 1 [u, .int .i64 y.ahead, .int .i64 y.last, .int .i64 y.n] rfl
    (fun j u' hu => by rw [add_plain, blk_cell hnew j]; simpa using hu)
    (fun z hz => by
      rcases List.mem_cons.1 hz with rfl | hz
      · exact hy1
      · simp only [List.mem_cons, List.not_mem_nil, or_false] at hz
        rcases hz with rfl | rfl | rfl <;> rfl) (by simp only [maxLen]; omega) hl hbase
  have hne : ∀ {p c}, blkR W base p c → blkR w1 base p c := by
    rintro p c ⟨u, e, hx⟩
    refine ⟨u, e, Lax.grown hx hg fun k hk e => ?_⟩
    obtain ⟨c1, h1⟩ := Lax.typed hx k hk
    obtain ⟨c2, h2⟩ := HO'.typed k e.symm
    exact block_ne h1 h2 (by decide)
  unfold Oper.wp execOp
  simp only [ho, resolve, invoke, builtin, Sem.run_bind, Sem.run_pure, Result.andThen_ok, List.map_toArray, List.map_cons, List.map_nil, hs, hx, hrun]
  refine h v1 w1 ⟨cs ++ [u, .int .i64 y.ahead, .int .i64 y.last, .int .i64 y.n], by rw [List.length_append]; exact h2, reps_append (hr.imp_ fun p c => hne) ⟨rfl, fun j p hj => ?_⟩⟩ (HB.grown hg hbase (fun k hk => (HOB k hk).1)) hg
  match j with
  | 0 => simp only [List.getElem?_cons_zero, Option.some.injEq] at hj; subst hj; exact hne ⟨u, rfl, HY⟩
  | j + 1 => simp at hj
end
end Bx
/-! ### what Open finds -/
def openGo (bs : List Int) (n : Nat) : Nat → RSt → Nat → Int → List Blk → List P.S58 → Option (List Blk × List P.S58 × RSt)
  | 0, st, _, _, bl, all => some (bl, all, st)
  | m + 1, st, at0, last, bl, all =>
    let a := rSize st bs.length
    let b := rSize a.2 16384
    let d := rBytes b.2 a.1
    let p := postsF d.1 last (last + b.1) (min 8 (n - at0))
    if d.2.e ≠ 0 ∨ p.2 = false then none else openGo bs n m d.2 (at0 + 8) (last + b.1) (bl ++ [⟨d.1, last, last + b.1, min 8 (n - at0)⟩]) (all ++ p.1)
def openF (bs : List Int) : Option (List Blk × Nat) :=
  let a := rSize ⟨bs, 0, 0⟩ 16384
  match openGo bs a.1.toNat ((a.1.toNat + 7) / 8) a.2 0 (-1) [] [] with
  | none => none
  | some (bl, all, st) => if (P.rEnd st).e ≠ 0 ∨ rightB (-1) 0 all = false ∨ formOf all ≠ bs then none else some (bl, a.1.toNat)
theorem rSize_range {s : RSt} (h : s.ok) {most : Int} (hm : 0 ≤ most) : 0 ≤ (rSize s most).1 ∧ (rSize s most).1 ≤ most := by
  have h1 := numF_range (bs := s.bs.drop s.at') (fun x hx => h.range x (List.mem_of_mem_drop hx))
  have h2 : 0 ≤ (sizeF (s.bs.drop s.at') most).1 ∧ (sizeF (s.bs.drop s.at') most).1 ≤ most := by
    unfold sizeF
    split
    · exact ⟨by simp, hm⟩
    · exact ⟨h1.1, by omega⟩
  unfold rSize took
  split
  · exact ⟨by simp, hm⟩
  · split
    · exact ⟨by simp, hm⟩
    · exact h2
theorem pGo_facts : ∀ (ds fs ps : List Int) (la : Int) (out : List P.S58) (R : List P.S58 × Int), pGo ds fs ps la out = some R → R.1.length = out.length + ds.length ∧ ∀ M, (∀ p ∈ out, p.f1.length ≤ M) → ps.length ≤ M → ∀ p ∈ R.1, p.f1.length ≤ M
  | [], fs, ps, la, out, R, h => by
    rw [pGo] at h
    injection h with h
    subst h
    exact ⟨by simp, fun M h _ => h⟩
  | d :: ds, fs, ps, la, out, R, h => by
    rw [pGo] at h
    split at h
    · cases h
    · split at h
      · cases h
      · have ih := pGo_facts _ _ _ _ _ _ h
        refine ⟨by rw [ih.1]; simp; omega, fun M hM hp => ih.2 M (fun p hpm => ?_) (by rw [List.length_drop]; omega)⟩
        rcases List.mem_append.1 hpm with hpm | hpm
        · exact hM p hpm
        · rw [List.mem_singleton] at hpm
          subst hpm
          simp only [sums_length, List.length_take]
          omega
theorem postsF_facts {bs : List Int} {ahead last : Int} {n : Nat} : (postsF bs ahead last n).1.length ≤ n ∧ ∀ p ∈ (postsF bs ahead last n).1, p.f1.length ≤ 1048576 := by
  unfold postsF
  split
  · exact ⟨by simp, fun p hp => by cases hp⟩
  · rename_i hlen
    split
    · exact ⟨by simp, fun p hp => by cases hp⟩
    · rename_i all hall
      split
      · exact ⟨by simp, fun p hp => by cases hp⟩
      · rename_i hpl
        split
        · exact ⟨by simp, fun p hp => by cases hp⟩
        · rename_i out l he
          have h1 := pGo_facts _ _ _ _ _ _ he
          have h2 := allGo_sum _ _ _ hall (by omega) (by omega)
          have hdl : (rowOf bs n).length = n := by
            rcases Nat.decEq (rowOf bs n).length n with h | h
            · exact absurd (.inl h) hlen
            · exact h
          refine ⟨by rw [h1.1, hdl]; simp, h1.2 1048576 (fun p hp => by cases hp) ?_⟩
          rcases Int.decEq ((rowOf (restOf (restOf bs n) n) all.toNat).length : Int) all with h | h
          · exact absurd (.inl h) hpl
          · omega
end Go.Proofs.Ytimlgpfcgklddaa
