/-
Texts of this seat, laid together: P1, O9, R8, P4.
-/
import Derived.Test.YtimlgpfcgklddaaQF12
import Derived.Test.YtimlgpfcgklddaaQA13
import Derived.Test.YtimlgpfcgklddaaQO5
import Derived.Test.YtimlgpfcgklddaaQD3
import Derived.Test.YtimlgpfcgklddaaQO7
import Derived.Test.YtimlgpfcgklddaaQR6
import Derived.Test.YtimlgpfcgklddaaQM13
namespace Go.Proofs.Ytimlgpfcgklddaa
open Go.RowKit
set_option linter.unusedVariables false
/-- A block's three rows. -/
def qRows (b : List Int) (k : Nat) : Option (List Int × List Int × List Int) :=
  match rowR b k 16384 with
  | none => none
  | some (docs, r1) =>
    match rowR r1 k 1048576 with
    | none => none
    | some (freqs, r2) =>
      match rowR r2 (sumF freqs).toNat 1048576 with
      | none => none
      | some (places, r3) => if r3 = [] then some (docs, freqs, places) else none
/-- The posts of three rows. -/
def qPosts : List Int → List Int → List Int → Int → List P.S58 → List P.S58 × Int
  | [], _, _, last, out => (out, last)
  | d :: ds, fs, ps, last, out => qPosts ds fs.tail (ps.drop (fs.headD 0 + 1).toNat) (last + 1 + d) (out ++ [⟨last + 1 + d, sums 0 (ps.take (fs.headD 0 + 1).toNat)⟩])
def qOpenGo (bs : List Int) (n : Nat) : Nat → RSt → Int → List P.S58 → Option (List P.S58 × RSt)
  | 0, st, _, l => some (l, st)
  | m + 1, st, last, l =>
    let a := qSize st bs.length
    let b := qSize a.2 16384
    let d := rBytes b.2 a.1
    if d.2.e ≠ 0 then none else
    match qRows d.1 (min (n - l.length) 8) with
    | none => none
    | some r => qOpenGo bs n m d.2 (qPosts r.1 r.2.1 r.2.2 last l).2 (qPosts r.1 r.2.1 r.2.2 last l).1
def qOpen (bs : List Int) : Option (List P.S58) :=
  let a := qSize ⟨bs, 0, 0⟩ 16384
  match qOpenGo bs a.1.toNat ((a.1.toNat + 7) / 8) a.2 (-1) [] with
  | none => none
  | some (l, st) => if (P.rEnd st).e ≠ 0 ∨ rightB (-1) 0 l = false ∨ formOf l ≠ bs then none else some l
theorem qOpen_sound {bs : List Int} {L : List P.S58} (h : qOpen bs = some L) : rightB (-1) 0 L = true ∧ formOf L = bs := by
  unfold qOpen at h
  dsimp only at h
  split at h
  · cases h
  · split at h
    · cases h
    · rename_i l st _ hc
      injection h with h
      subst h
      refine ⟨?_, ?_⟩
      · cases hr : rightB (-1) 0 l with
        | true => rfl
        | false => exact absurd (.inr (.inl hr)) hc
      · exact Classical.byContradiction fun hn => hc (.inr (.inr hn))
theorem openF_sound {bs : List Int} {bl : List Blk} {n : Nat} (h : openF bs = some (bl, n)) : ∃ L, rightB (-1) 0 L = true ∧ formOf L = bs := by
  unfold openF at h
  dsimp only at h
  split at h
  · cases h
  · split at h
    · cases h
    · rename_i bl' all st _ hc
      refine ⟨all, ?_, ?_⟩
      · cases hr : rightB (-1) 0 all with
        | true => rfl
        | false => exact absurd (.inr (.inl hr)) hc
      · exact Classical.byContradiction fun hn => hc (.inr (.inr hn))
theorem qPosts_pGo : ∀ (ds fs ps : List Int) (la : Int) (out : List P.S58) (R : List P.S58 × Int), pGo ds fs ps la out = some R → qPosts ds fs ps la out = R
  | [], fs, ps, la, out, R, h => by
    rw [pGo] at h
    injection h
  | d :: ds, fs, ps, la, out, R, h => by
    rw [pGo] at h
    split at h
    · cases h
    · split at h
      · cases h
      · rw [qPosts]
        exact qPosts_pGo _ _ _ _ _ _ h
theorem docs_right : ∀ (blk rest : List P.S58) (la all : Int), rightB la all (blk ++ rest) = true → -1 ≤ la → (∀ x ∈ docsOf la blk, 0 ≤ x ∧ x ≤ 16384) ∧ ∀ x ∈ placesOf blk, 0 ≤ x ∧ x ≤ 1048576
  | [], rest, la, all, h, h0 => ⟨fun x hx => (by cases hx), fun x hx => (by cases hx)⟩
  | p :: r, rest, la, all, h, h0 => by
    rw [List.cons_append, rightB, Bool.and_eq_true] at h
    obtain ⟨hc, h1, h2, h3, h4⟩ := postB_chk h.1
    have ih := docs_right r rest p.f0 _ h.2 (by omega)
    have ed : docsOf la (p :: r) = (p.f0 - la - 1) :: docsOf p.f0 r := rfl
    have ep : placesOf (p :: r) = diffs 0 p.f1 ++ placesOf r := by unfold placesOf; rw [List.flatMap_cons]
    rw [ed, ep]
    refine ⟨fun x hx => ?_, fun x hx => ?_⟩
    · rcases List.mem_cons.1 hx with rfl | hx
      · omega
      · exact ih.1 x hx
    · rcases List.mem_append.1 hx with hx | hx
      · have := chk_diffs p.f1 0 hc (by omega) x hx
        unfold offB at this
        have := of_decide_eq_false this
        omega
      · exact ih.2 x hx
theorem qRows_back (blk rest : List P.S58) (ahead all : Int) (ok : BlockOk blk ahead) (h : rightB ahead all (blk ++ rest) = true) : qRows (rowsOf ahead blk) blk.length = some (docsOf ahead blk, freqsOf blk, placesOf blk) := by
  have hr := block_ranges ok
  have hdl : (docsOf ahead blk).length = blk.length := by unfold docsOf; rw [gaps_length, List.length_map]
  have hfl : (freqsOf blk).length = blk.length := by unfold freqsOf; rw [List.length_map]
  have hpl := P.places_len blk
  have e1 : rowsOf ahead blk = packPut (docsOf ahead blk) ++ (packPut (freqsOf blk) ++ packPut (placesOf blk)) := by unfold rowsOf; rw [List.append_assoc]
  have r1 := (docs_right blk rest ahead all h ok.last0).1
  have r2 : ∀ x ∈ freqsOf blk, 0 ≤ x ∧ x ≤ 1048576 := fun x hx => by
    unfold freqsOf at hx
    obtain ⟨q, hq, rfl⟩ := List.mem_map.1 hx
    have h1 := ok.tot
    have h3 := (ok.pos q hq).1
    have h2 : q.f1.length ≤ (blk.map fun p => p.f1.length).sum := P.sum_mem_le (List.mem_map.2 ⟨q, hq, rfl⟩)
    omega
  have r3 := (docs_right blk rest ahead all h ok.last0).2
  have b1 := rowR_back (docsOf ahead blk) (packPut (freqsOf blk) ++ packPut (placesOf blk)) 16384 hr.1.1 r1 (by decide)
  have b2 := rowR_back (freqsOf blk) (packPut (placesOf blk)) 1048576 hr.2.1.1 r2 (by decide)
  have b3 := rowR_back (placesOf blk) [] 1048576 hr.2.2.1 r3 (by decide)
  rw [List.append_nil] at b3
  rw [hdl, ← e1] at b1
  rw [hfl] at b2
  have hs : (sumF (freqsOf blk)).toNat = (placesOf blk).length := by rw [sumF_freqs, hpl]; omega
  unfold qRows
  rw [b1]
  dsimp only
  rw [b2]
  dsimp only
  rw [hs, b3]
  dsimp only
  rw [if_pos rfl]
theorem qSize_back (pre rest : List Int) (u most : Int) (h0 : 0 ≤ u) (h1 : u < 18446744073709551616) (h2 : u ≤ most) : qSize ⟨pre ++ (uv u ++ rest), pre.length, 0⟩ most = (u, ⟨pre ++ (uv u ++ rest), pre.length + (uv u).length, 0⟩) := by
  have hl := uv_len h1
  have hs : qsize (uv u ++ rest) most = (u, ((uv u).length : Int)) := by
    unfold qsize
    rw [numR_uv h0 h1]
    exact if_neg (by dsimp only; omega)
  unfold qSize took
  simp only [List.drop_left]
  rw [hs, if_neg (by simp), if_neg (by omega)]
  simp only [Int.toNat_natCast]
theorem qOpenGo_back (L : List P.S58) (hR : rightB (-1) 0 L = true) : ∀ (m j : Nat), j + m = (L.length + 7) / 8 → qOpenGo (formOf L) L.length m ⟨formOf L, (blocksOf L (List.range j)).2.length, 0⟩ (blocksOf L (List.range j)).1 (L.take (8 * j)) = some (L, ⟨formOf L, (formOf L).length, 0⟩)
  | 0, j, h => by
    have e : formOf L = (blocksOf L (List.range j)).2 := by unfold formOf; rw [show (L.length + 7) / 8 = j from by omega]
    rw [qOpenGo, List.take_of_length_le (by omega), ← e]
  | m + 1, j, h => by
    have ih := qOpenGo_back L hR m (j + 1) (by omega)
    have hb := blocks_bounds L hR j
    have hb1 := blocks_bounds L hR (j + 1)
    have hlen := rightB_len hR
    have ok := blockOk_chunk hR j (blocksOf L (List.range j)).1 hb.1 (by omega)
    obtain ⟨T, hT⟩ := blocks_tail L m (j + 1)
    rw [show j + 1 + m = (L.length + 7) / 8 from by omega] at hT
    have hF : formOf L = (blocksOf L (List.range (j + 1))).2 ++ T := hT
    have hlast1 : (blocksOf L (List.range (j + 1))).1 = lastOf (blocksOf L (List.range j)).1 ((chunkOf 8 L j).map fun p => p.f0) := by rw [blocks_succ]; rfl
    have hbytes : (blocksOf L (List.range (j + 1))).2 = (blocksOf L (List.range j)).2 ++ uv ((rowsOf (blocksOf L (List.range j)).1 (chunkOf 8 L j)).length : Int) ++ uv ((lastOf (blocksOf L (List.range j)).1 ((chunkOf 8 L j).map fun p => p.f0) - (blocksOf L (List.range j)).1) % 18446744073709551616) ++ rowsOf (blocksOf L (List.range j)).1 (chunkOf 8 L j) := by rw [blocks_succ]; rfl
    have hcl : (chunkOf 8 L j).length = min 8 (L.length - 8 * j) := by unfold chunkOf; rw [List.length_take, List.length_drop, Nat.mul_comm j]
    -- the suffix is right
    have hsplit : L = L.take (8 * j) ++ (chunkOf 8 L j ++ L.drop (8 * (j + 1))) := by
      unfold chunkOf
      rw [Nat.mul_comm j, show 8 * (j + 1) = 8 * j + 8 from by omega, ← List.drop_drop, List.take_append_drop, List.take_append_drop]
    obtain ⟨all', hall0, hsuf⟩ := rightB_append (L.take (8 * j)) (chunkOf 8 L j ++ L.drop (8 * (j + 1))) (-1) 0 (by rw [← hsplit]; exact hR) (by omega)
    rw [← blocks_last] at hsuf
    have hmono := lastOf_mono _ _ _ _ hsuf
    have htl : (L.take (8 * j)).length = 8 * j := by rw [List.length_take]; omega
    obtain ⟨P0, hP0⟩ : ∃ x, (blocksOf L (List.range j)).2 = x := ⟨_, rfl⟩
    obtain ⟨la, hla⟩ : ∃ x, (blocksOf L (List.range j)).1 = x := ⟨_, rfl⟩
    obtain ⟨c, hc⟩ : ∃ x, chunkOf 8 L j = x := ⟨_, rfl⟩
    obtain ⟨en, hen⟩ : ∃ x, (blocksOf L (List.range (j + 1))).1 = x := ⟨_, rfl⟩
    rw [hla, hc] at hsuf hmono ok hlast1 hbytes
    rw [hen] at hlast1 hb1
    rw [hla] at hb
    rw [← hlast1] at hmono hbytes
    rw [hc] at hcl
    rw [hP0] at hbytes hb
    have hpo := qRows_back c _ la all' ok hsuf
    have hpg := qPosts_pGo _ _ _ _ _ _ (pGo_back c (L.drop (8 * (j + 1))) la all' (L.take (8 * j)) hsuf ok.last0)
    rw [← hlast1] at hpg
    obtain ⟨b, hbe⟩ : ∃ x, rowsOf la c = x := ⟨_, rfl⟩
    rw [hbe] at hbytes hpo
    have hd : (en - la) % 18446744073709551616 = en - la := by omega
    rw [hd] at hbytes
    have hbl := P.rowsOf_len ok
    rw [hbe] at hbl
    rw [hP0, hla]
    obtain ⟨bs, hbs⟩ : ∃ x, formOf L = x := ⟨_, rfl⟩
    rw [hbs] at hF ih ⊢
    rw [hbytes] at hF
    have F1 : bs = P0 ++ (uv (b.length : Int) ++ (uv (en - la) ++ (b ++ T))) := by rw [hF]; simp only [List.append_assoc]
    have F2 : bs = (P0 ++ uv (b.length : Int)) ++ (uv (en - la) ++ (b ++ T)) := by rw [F1]; simp only [List.append_assoc]
    have F3 : bs = (P0 ++ uv (b.length : Int) ++ uv (en - la)) ++ (b ++ T) := by rw [F1]; simp only [List.append_assoc]
    have hble : (b.length : Int) ≤ bs.length := by rw [F1]; simp only [List.length_append]; omega
    have r1 := qSize_back P0 (uv (en - la) ++ (b ++ T)) (b.length : Int) (bs.length : Int) (by omega) (by omega) hble
    have r2 := qSize_back (P0 ++ uv (b.length : Int)) (b ++ T) (en - la) 16384 (by omega) (by omega) (by omega)
    have r3 := rBytes_back (P0 ++ uv (b.length : Int) ++ uv (en - la)) b T
    rw [← F1] at r1
    rw [← F2, List.length_append] at r2
    rw [← F3, List.length_append, List.length_append] at r3
    rw [qOpenGo]
    try dsimp only
    rw [r1]
    try dsimp only
    rw [r2]
    try dsimp only
    rw [r3]
    try dsimp only
    rw [if_neg (by simp), htl, Nat.min_comm, ← hcl, hpo]
    try dsimp only
    rw [hpg]
    have e1 : (blocksOf L (List.range (j + 1))).2.length = P0.length + (uv (b.length : Int)).length + (uv (en - la)).length + b.length := by
      rw [hbytes]; simp only [List.length_append]
    have e2 : L.take (8 * (j + 1)) = L.take (8 * j) ++ c := by
      rw [← hc]
      unfold chunkOf
      rw [Nat.mul_comm j, show 8 * (j + 1) = 8 * j + 8 from by omega, List.take_add]
    rw [e1, hen, e2] at ih
    exact ih
theorem qOpen_back (L : List P.S58) (hR : rightB (-1) 0 L = true) : qOpen (formOf L) = some L := by
  have hlen := rightB_len hR
  obtain ⟨T, hT⟩ := blocks_tail L ((L.length + 7) / 8) 0
  rw [Nat.zero_add] at hT
  have hF : formOf L = uv (L.length : Int) ++ T := hT
  have r1 := qSize_back [] T (L.length : Int) 16384 (by omega) (by omega) (by omega)
  rw [List.nil_append, ← hF, List.length_nil, Nat.zero_add] at r1
  have h := qOpenGo_back L hR ((L.length + 7) / 8) 0 (by omega)
  have e : (blocksOf L (List.range 0)).2.length = (uv (L.length : Int)).length := rfl
  rw [e] at h
  unfold qOpen
  dsimp only
  rw [r1]
  dsimp only
  rw [Int.toNat_natCast]
  have e2 : (blocksOf L (List.range 0)).1 = -1 := rfl
  rw [e2, Nat.mul_zero, List.take_zero] at h
  rw [h]
  dsimp only
  rw [if_neg]
  rintro (h | h | h)
  · unfold P.rEnd at h
    rw [if_neg (by simp)] at h
    exact h rfl
  · rw [hR] at h; cases h
  · exact h rfl
open Go.RowKit Go.Proofs.YtimlgpfcgklddaaW.PrintWords
def qxR (w : World) (base : Nat) (p : P.S86) (cs : List Value) : Prop := ∃ v1, cs = [.int .i64 p.f0, v1] ∧ Lx .i64 3 w base v1 p.f1
/-- A row of posts of one's own. -/
def Qx (w : World) (base : Nat) (v : Value) (ps : List P.S86) : Prop := ∃ cs, Lax w base 86 2 v ps.length cs ∧ Reps (qxR w base) 2 ps cs
namespace Qx
section
variable {w w1 : World} {base : Nat} {v : Value} {ps : List P.S86}
theorem nil (w : World) (base : Nat) : Qx w base (.slice none 0 0) [] := ⟨[], Lax.nil w base 86 2, Reps.none _ _⟩
theorem below (h : Qx w base v ps) (hb : Below w.heap.size w w1) : Qx w1 base v ps := by
  obtain ⟨cs, h1, h2⟩ := h
  exact ⟨cs, h1.below hb, h2.imp_ fun p c ⟨v1, e, h⟩ => ⟨v1, e, Lx.below h hb⟩⟩
theorem lower {base' : Nat} (h : Qx w base v ps) (hb : base' ≤ base) : Qx w base' v ps := by
  obtain ⟨cs, h1, h2⟩ := h
  exact ⟨cs, h1.lower hb, h2.imp_ fun p c ⟨v1, e, h⟩ => ⟨v1, e, Lx.lower h hb⟩⟩
theorem grown (h : Qx w base v ps) {row : Option Nat} (hg : w.grownBy w1 row) (hne : ∀ k cells, row = some k → w.heap[k]? = some (.cells cells 86 (0, 0)) → False) (hne3 : ∀ k cells, row = some k → w.heap[k]? = some (.cells cells 3 (0, 0)) → False) : Qx w1 base v ps := by
  obtain ⟨cs, h1, h2⟩ := h
  refine ⟨cs, h1.grown hg fun k hk e => ?_, h2.imp_ fun p c ⟨v1, e, h⟩ => ⟨v1, e, Lax.grown h hg fun k hk e => ?_⟩⟩
  · obtain ⟨cells, hc⟩ := h1.typed k hk
    exact hne k cells e.symm hc
  · obtain ⟨cells, hc⟩ := Lax.typed h k hk
    exact hne3 k cells e.symm hc
theorem block (h : Qx w base v ps) : ∀ k, v.ownBlock = some k → base ≤ k ∧ k < w.heap.size ∧ ∃ cells, w.heap[k]? = some (.cells cells 86 (0, 0)) := by
  obtain ⟨cs, h1, h2⟩ := h
  exact fun k hk => ⟨h1.base_le k hk, h1.lt k hk, h1.typed k hk⟩
theorem reads (h : Qx w base v ps) : ∃ A c, v = .slice A ps.length c ∧ ps.length ≤ c ∧ Kd.C P.k86 w A ps.length ps := by
  obtain ⟨cs, h1, h2⟩ := h
  have hlen := h1.1
  rcases h1.2 with ⟨rfl, hn⟩ | ⟨g, cap, cur, rfl, hb, hg, hn, hc, hs, ht⟩
  · have : ps = [] := List.eq_nil_of_length_eq_zero hn
    subst this
    exact ⟨none, 0, rfl, Nat.le_refl _, Kd.C_nil _ _⟩
  · refine ⟨_, _, rfl, hn, ⟨rfl, h1.max, fun hp => ⟨_, rfl, fun j p hj => ?_⟩⟩⟩
    obtain ⟨v1, e1, hx⟩ := h2.2 j p hj
    obtain ⟨A1, c1, rfl, hl1, hC1⟩ := hx.reads
    refine ⟨[.int .i64 p.f0, .slice A1 p.f1.length c1], rfl, P.k86_mk w p hl1 hC1, fun i u hu => ?_⟩
    rw [← e1] at hu
    rw [List.getElem?_take] at hu
    split at hu
    · rw [List.getElem?_drop] at hu
      exact h1.cells (g := g) rfl (j * 2 + i) u hu
    · cases hu
end
section
variable {Pg : Program} {ops : Array Oper} {rest : List Oper} {o : Oper} {a : Act} {Q : Exit → Act → World → Prop}
theorem run_row {W : World} (base : Nat) (t ty : TypeId)
    (ht : Pg.underlying t = some (.slice 86)) (hinfo : (Pg.info? 86).map (fun i => (i.zero, i.size, i.bytes)) = some (some (.agg #[(.int .i64 0), (.slice none 0 0)]), 2, 32))
    (v : Value) (xs ys : List P.S86) (A : Option Addr) (m c : Nat) (cs' : List Value)
    (HO : Qx W base v xs) (hm : ys.length = m) (hreps : Reps (qxR W base) 2 ys cs') (hcells : 0 < m → ∃ ad, A = some ad ∧ ∀ j u, cs'[j]? = some u → W.cell? (ad.add j) = some u) (hbase : base ≤ W.heap.size) (hl : (xs.length + m) * 32 ≤ 140737488355328) :
    ∃ v1 w1, (Builtin.append_ #[t, t] ty #[v, .slice A m c]).run Pg W = .ok v1 w1 ∧ Qx w1 base v1 (xs ++ ys) ∧ W.grownBy w1 v.ownBlock ∧ (v1.ownBlock = v.ownBlock ∨ v1.ownBlock = some W.heap.size) := by
  obtain ⟨i0, hi, hzz⟩ := Option.map_eq_some_iff.1 hinfo
  simp only [Prod.mk.injEq] at hzz
  obtain ⟨hz0, hz1, hz2⟩ := hzz
  obtain ⟨cs, HO', hr⟩ := HO
  rcases A with _ | ad
  · have h0 : m = 0 := by
      rcases Nat.eq_zero_or_pos m with h0 | h0
      · exact h0
      · obtain ⟨ad, h, _⟩ := hcells h0
        cases h
    subst h0
    obtain rfl : ys = [] := List.eq_nil_of_length_eq_zero hm
    refine ⟨v, W, ?_, by simpa using ⟨cs, HO', hr⟩, World.grownBy.refl W _, .inl rfl⟩
    rcases HO'.2 with ⟨rfl, hn⟩ | ⟨g, cap, cur, rfl, _, _, hnc, _⟩
    · simp [Builtin.append_, run_underlying ht, sizeOf, typeInfo, hi, Builtin.lenOf, Builtin.firstCells]
    · simp [Builtin.append_, run_underlying ht, sizeOf, typeInfo, hi, Builtin.lenOf, Builtin.firstCells, hnc, storeCells]
  · have hc' : ∀ j u, cs'[j]? = some u → W.cell? (ad.add j) = some u := by
      intro j u hu
      have hj := (List.getElem?_eq_some_iff.1 hu).1
      have := hreps.1
      obtain ⟨ad', e, h⟩ := hcells (by omega)
      injection e with e
      subst e
      exact h j u hu
    have hone : ∀ u ∈ cs', u.oneCell' = true := by
      intro u hu
      obtain ⟨j, hj, rfl⟩ := List.mem_iff_getElem.1 hu
      have hcl := hreps.1
      have hj2 : j / 2 < ys.length := by omega
      obtain ⟨v1, e1, hx⟩ := hreps.2 (j / 2) _ (List.getElem?_eq_getElem hj2)
      have e2 : (cs'.drop (j / 2 * 2)).take 2 = [cs'[j / 2 * 2]'(by omega), cs'[j / 2 * 2 + 1]'(by omega)] := by
        apply List.ext_getElem?
        intro k
        rw [List.getElem?_take, List.getElem?_drop]
        match k with
        | 0 => rw [if_pos (by decide), Nat.add_zero, List.getElem?_eq_getElem (by omega)]; rfl
        | 1 => rw [if_pos (by decide), List.getElem?_eq_getElem (by omega)]; rfl
        | k + 2 => rw [if_neg (by omega)]; rfl
      rw [e2] at e1
      injection e1 with e3 e4
      injection e4 with e4 _
      rcases Nat.mod_two_eq_zero_or_one j with hm | hm
      · have : j / 2 * 2 = j := by omega
        simp only [this] at e3
        rw [e3]; rfl
      · have : j / 2 * 2 + 1 = j := by omega
        simp only [this] at e4
        rw [e4]
        obtain ⟨A', c', rfl, _⟩ := hx.reads
        rfl
    obtain ⟨v1, w1, hrun, h2, h3, h5⟩ := Lax.run_append (P := Pg) W base t ty 86 i0 _ 2 32 ht hi hz0 hz1 hz2 rfl (by omega) v xs.length cs HO' ad m c cs' (by rw [hreps.1, hm]) hc' hone (by simp only [maxLen]; omega) hl hbase
    have hne : ∀ {p c}, qxR W base p c → qxR w1 base p c := by
      rintro p c ⟨u, e, hx⟩
      refine ⟨u, e, Lax.grown hx h3 fun k hk e => ?_⟩
      obtain ⟨c1, h1⟩ := Lax.typed hx k hk
      obtain ⟨c2, h2⟩ := HO'.typed k e.symm
      rw [h1] at h2
      injection h2 with h2
      injection h2 with _ h2
      exact absurd h2 (by decide)
    refine ⟨v1, w1, hrun, ⟨cs ++ cs', by rw [List.length_append, hm]; exact h2, ?_⟩, h3, h5⟩
    refine ⟨by rw [List.length_append, List.length_append, hr.1, hreps.1, Nat.add_mul], fun j p hj => ?_⟩
    rcases Nat.lt_or_ge j xs.length with hlt | hge
    · rw [List.getElem?_append_left hlt] at hj
      have h6 := hr.2 j p hj
      have h7 : j * 2 + 2 ≤ cs.length := by rw [hr.1]; omega
      rw [List.drop_append_of_le_length (by omega), List.take_append_of_le_length (by rw [List.length_drop]; omega)]
      exact hne h6
    · rw [List.getElem?_append_right hge] at hj
      have h6 := hreps.2 _ p hj
      rw [List.drop_append, List.drop_eq_nil_of_le (by rw [hr.1]; omega), List.nil_append, hr.1, ← Nat.sub_mul]
      exact hne h6
/-- append(v, y); behind 'at_builtin'; the goal's world is 'W.alloc' of the variadic's box. -/
theorem append_one {w0 W : World} (base : Nat) (hgd : o.guard = none) (s x : Operand) (t : TypeId)
    (ho : o.op = .call { callee := .builtin .append, args := #[s, x], argTypes := #[t, t] })
    (ht : Pg.underlying t = some (.slice 86)) (hinfo : (Pg.info? 86).map (fun i => (i.zero, i.size, i.bytes)) = some (some (.agg #[(.int .i64 0), (.slice none 0 0)]), 2, 32))
    (v : Value) (xs : List P.S86) (y : P.S86) (u : Value) (gN : Nat) (hN : gN = W.heap.size) (hs : a.eval s = v) (hx : a.eval x = .slice (some ⟨gN, 0, none⟩) 1 1)
    (HO : Qx W base v xs) (HY : Lx .i64 3 W base u y.f1) (HB : Below base w0 W) (hbase : base ≤ W.heap.size) (hl : (xs.length + 1) * 32 ≤ 140737488355328)
    (h : ∀ v1 w1, Qx w1 base v1 (xs ++ [y]) → Below base w0 w1 → W.grownBy w1 v.ownBlock → (v1.ownBlock = v.ownBlock ∨ ∃ b, v1.ownBlock = some b ∧ W.heap.size ≤ b) → wpList Pg ops Q rest (a.put o.dst v1) w1) :
    wpList Pg ops Q (o :: rest) a (W.alloc (.cells #[.int .i64 y.f0, u] 86)) := by
  subst hN
  have hl0 : xs.length ≤ 9223372036854775807 := by omega
  have hreps : Reps (qxR (W.alloc (.cells #[.int .i64 y.f0, u] 86)) base) 2 [y] [.int .i64 y.f0, u] := ⟨rfl, fun j p hj => by
    match j with
    | 0 => simp only [List.getElem?_cons_zero, Option.some.injEq] at hj; subst hj; exact ⟨u, rfl, HY.alloc _⟩
    | j + 1 => simp at hj⟩
  have hO : Qx (W.alloc (.cells #[.int .i64 y.f0, u] 86)) base v xs := HO.below (below_alloc (Below.refl _ _) _)
  obtain ⟨v1, w1, hr, hown, hg, hat⟩ := run_row (Pg := Pg) base t o.type ht hinfo v xs [y] (some ⟨W.heap.size, 0, none⟩) 1 1 _ hO rfl hreps (fun _ => ⟨_, rfl, fun j u' hu => by
    rw [add_plain]
    have hb := blk_cell (blk_new W (.cells #[.int .i64 y.f0, u] 86)) j
    rw [hb]
    simpa using hu⟩) (by simp; omega) (by simpa using hl)
  refine wpList_plain hgd fun K hK => ?_
  unfold Oper.wp execOp
  simp only [ho, resolve, invoke, builtin, Sem.run_bind, Sem.run_pure, Result.andThen_ok, List.map_toArray, List.map_cons, List.map_nil, hs, hx, hr]
  refine hK _ _ (h v1 w1 hown ((HB.alloc hbase _).grown hg (by simp; omega) (fun k hk => (block HO k hk).1)) (World.grownBy.trans (World.grownBy_alloc W _ _) hg) ?_)
  rcases hat with hat | hat
  · exact .inl hat
  · exact .inr ⟨_, hat, by simp⟩
end
end Qx
end Go.Proofs.Ytimlgpfcgklddaa
namespace Go.Proofs.Ytimlgpfcgklddaa.P
open Go.RowKit Go.Shelf Go.Proofs.YtimlgpfcgklddaaW.PrintWords Go.Proofs.YtimlgpfcgklddaaW.PrintLast Go.Proofs.YtimlgpfcgklddaaW.PrintMore
set_option linter.unusedVariables false
def to86 (p : S58) : S86 := ⟨p.f0, p.f1⟩
theorem to58_86 (l : List S58) : (l.map to86).map to58 = l := by
  rw [List.map_map]
  conv => rhs; rw [← List.map_id l]
  rfl
theorem refB_calls (A : Option Addr) (l : List S58) (c : Nat) (w : World) (h : Kd.C k86 w A (l.map to86).length (l.map to86)) (hc : (l.map to86).length ≤ c) (hl : l.length ≤ 4398046511103) (hp : ∀ p ∈ l, p.f1.length ≤ 4611686018427387904) :
    Calls Try.prog 11 #[.slice A (l.map to86).length c] w fun e w' => ∃ A' c', e = .returned (.tuple #[.slice A' (refOf l).1.length c', .int .i64 (refOf l).2]) ∧ (refOf l).1.length ≤ c' ∧ (Kd.int .u8).C w' A' (refOf l).1.length (refOf l).1 ∧ Below w.heap.size w w' := by
  have hev := build_ev (l.map to86) (by rw [List.length_map]; omega) (fun p hp' => by
    obtain ⟨q, hq, rfl⟩ := List.mem_map.1 hp'
    exact hp q hq)
  rw [to58_86] at hev
  obtain ⟨k, hk⟩ := hev.rounds
  refine (lecternref10_Build.calls k A c (l.map to86) (refOf l).1 (refOf l).2 w h hc hk).mono ?_
  rintro e w' ⟨v, rfl, h1, h2⟩
  obtain ⟨A', c', rfl⟩ := Kd.R_slice h1
  have h3 := Kd.R_reads' h1
  exact ⟨A', c', rfl, h3.2.1, h3.2.2, h2⟩
end Go.Proofs.Ytimlgpfcgklddaa.P
namespace Go.Proofs.Ytimlgpfcgklddaa
open Go.RowKit Go.Proofs.YtimlgpfcgklddaaW.PrintWords
set_option linter.unusedVariables false
/-- No two positions in one block; all lie below N. -/
structure Apc (N : Nat) (cs : List Value) (n : Nat) : Prop where
  ap : ∀ i j, i < n → j < n → i ≠ j → ∀ u u', cs[i * 2 + 1]? = some u → cs[j * 2 + 1]? = some u' → Apart2 u u'
  lt : ∀ i, i < n → ∀ u k, cs[i * 2 + 1]? = some u → u.ownBlock = some k → k < N
def PxA (N : Nat) (w : World) (base : Nat) (v : Value) (ps : List P.S58) : Prop := ∃ cs, Lax w base 58 2 v ps.length cs ∧ Reps (pxR w base) 2 ps cs ∧ Apc N cs ps.length
theorem pxR_pos {w : World} {base : Nat} {ps : List P.S58} {cs : List Value} (h : Reps (pxR w base) 2 ps cs) (i : Nat) (hi : i < ps.length) : ∃ v1, cs[i * 2 + 1]? = some v1 ∧ cs[i * 2]? = some (.int .i64 (ps[i]).f0) ∧ Lx .i64 3 w base v1 (ps[i]).f1 := by
  obtain ⟨v1, e1, hx⟩ := h.2 i _ (List.getElem?_eq_getElem hi)
  have h0 := congrArg (fun l => l[0]?) e1
  have h1 := congrArg (fun l => l[1]?) e1
  simp only [List.getElem?_take, List.getElem?_drop] at h0 h1
  rw [if_pos (by decide)] at h0 h1
  exact ⟨v1, h1, h0, hx⟩
namespace PxA
section
variable {w w1 : World} {base N : Nat} {v : Value} {ps : List P.S58}
theorem px (h : PxA N w base v ps) : Px w base v ps := by
  obtain ⟨cs, h1, h2, _⟩ := h
  exact ⟨cs, h1, h2⟩
theorem nil (N : Nat) (w : World) (base : Nat) : PxA N w base (.slice none 0 0) [] := ⟨[], Lax.nil w base 58 2, Reps.none _ _, ⟨fun i j hi => by simp at hi, fun i hi => by simp at hi⟩⟩
theorem below (h : PxA N w base v ps) (hb : Below w.heap.size w w1) : PxA N w1 base v ps := by
  obtain ⟨cs, h1, h2, h3⟩ := h
  exact ⟨cs, h1.below hb, h2.imp_ fun p c ⟨v1, e, h⟩ => ⟨v1, e, Lx.below h hb⟩, h3⟩
theorem lower {base' : Nat} (h : PxA N w base v ps) (hb : base' ≤ base) : PxA N w base' v ps := by
  obtain ⟨cs, h1, h2, h3⟩ := h
  exact ⟨cs, h1.lower hb, h2.imp_ fun p c ⟨v1, e, h⟩ => ⟨v1, e, Lx.lower h hb⟩, h3⟩
theorem bound (h : PxA N w base v ps) : PxA w.heap.size w base v ps := by
  obtain ⟨cs, h1, h2, h3⟩ := h
  refine ⟨cs, h1, h2, h3.ap, fun i hi u k hu hk => ?_⟩
  obtain ⟨v1, e1, _, hx⟩ := pxR_pos h2 i hi
  rw [e1] at hu
  injection hu with hu
  subst hu
  exact Lax.lt hx k hk
theorem clip {A : Option Addr} {c : Nat} (h : PxA N w base (.slice A ps.length c) ps) : PxA N w base (.slice A ps.length ps.length) ps := by
  obtain ⟨cs, h1, h2, h3⟩ := h
  exact ⟨cs, h1.clip, h2, h3⟩
theorem block (h : PxA N w base v ps) : ∀ k, v.ownBlock = some k → base ≤ k ∧ k < w.heap.size ∧ ∃ cells, w.heap[k]? = some (.cells cells 58 (0, 0)) := h.px.block
end
theorem apc_append {N N' : Nat} {xs ys : List P.S58} {cs cs' : List Value} (hl : cs.length = xs.length * 2) (h : Apc N cs xs.length) (h' : Apc N' cs' ys.length) (hN : N ≤ N') (hlo : ∀ i, i < ys.length → ∀ u k, cs'[i * 2 + 1]? = some u → u.ownBlock = some k → N ≤ k) : Apc N' (cs ++ cs') (xs ++ ys).length := by
  have left : ∀ i, i < xs.length → (cs ++ cs')[i * 2 + 1]? = cs[i * 2 + 1]? := fun i hi => List.getElem?_append_left (by omega)
  have right : ∀ i, xs.length ≤ i → (cs ++ cs')[i * 2 + 1]? = cs'[(i - xs.length) * 2 + 1]? := fun i hi => by
    rw [List.getElem?_append_right (by omega), hl]
    congr 1
    omega
  rw [List.length_append]
  refine ⟨fun i j hi hj hij u u' hu hu' => ?_, fun i hi u k hu hk => ?_⟩
  · rcases Nat.lt_or_ge i xs.length with h1 | h1 <;> rcases Nat.lt_or_ge j xs.length with h2 | h2
    · rw [left i h1] at hu
      rw [left j h2] at hu'
      exact h.ap i j h1 h2 hij u u' hu hu'
    · rw [left i h1] at hu
      rw [right j h2] at hu'
      intro k hk e
      have := h.lt i h1 u k hu hk
      have := hlo (j - xs.length) (by omega) u' k hu' e.symm
      omega
    · rw [right i h1] at hu
      rw [left j h2] at hu'
      intro k hk e
      have := h.lt j h2 u' k hu' e.symm
      have := hlo (i - xs.length) (by omega) u k hu hk
      omega
    · rw [right i h1] at hu
      rw [right j h2] at hu'
      exact h'.ap _ _ (by omega) (by omega) (by omega) u u' hu hu'
  · rcases Nat.lt_or_ge i xs.length with h1 | h1
    · rw [left i h1] at hu
      exact Nat.lt_of_lt_of_le (h.lt i h1 u k hu hk) hN
    · rw [right i h1] at hu
      exact h'.lt _ (by omega) u k hu hk
section
variable {Pg : Program} {ops : Array Oper} {rest : List Oper} {o : Oper} {a : Act} {Q : Exit → Act → World → Prop}
theorem run_row {W : World} (base : Nat) (t ty : TypeId)
    (ht : Pg.underlying t = some (.slice 58)) (hinfo : (Pg.info? 58).map (fun i => (i.zero, i.size, i.bytes)) = some (some (.agg #[(.int .i64 0), (.slice none 0 0)]), 2, 32))
    (v : Value) (xs ys : List P.S58) (A : Option Addr) (m c : Nat) (cs' : List Value)
    (cs : List Value) (HO' : Lax W base 58 2 v xs.length cs) (hr : Reps (pxR W base) 2 xs cs) (hm : ys.length = m) (hreps : Reps (pxR W base) 2 ys cs') (hcells : 0 < m → ∃ ad, A = some ad ∧ ∀ j u, cs'[j]? = some u → W.cell? (ad.add j) = some u) (hbase : base ≤ W.heap.size) (hl : (xs.length + m) * 32 ≤ 140737488355328) :
    ∃ v1 w1, (Builtin.append_ #[t, t] ty #[v, .slice A m c]).run Pg W = .ok v1 w1 ∧ Lax w1 base 58 2 v1 (xs ++ ys).length (cs ++ cs') ∧ Reps (pxR w1 base) 2 (xs ++ ys) (cs ++ cs') ∧ W.grownBy w1 v.ownBlock ∧ (v1.ownBlock = v.ownBlock ∨ v1.ownBlock = some W.heap.size) := by
  obtain ⟨i0, hi, hzz⟩ := Option.map_eq_some_iff.1 hinfo
  simp only [Prod.mk.injEq] at hzz
  obtain ⟨hz0, hz1, hz2⟩ := hzz
  rcases A with _ | ad
  · have h0 : m = 0 := by
      rcases Nat.eq_zero_or_pos m with h0 | h0
      · exact h0
      · obtain ⟨ad, h, _⟩ := hcells h0
        cases h
    subst h0
    obtain rfl : ys = [] := List.eq_nil_of_length_eq_zero hm
    obtain rfl : cs' = [] := List.eq_nil_of_length_eq_zero (by rw [hreps.1]; rfl)
    refine ⟨v, W, ?_, by simpa using HO', by simpa using hr, World.grownBy.refl W _, .inl rfl⟩
    rcases HO'.2 with ⟨rfl, hn⟩ | ⟨g, cap, cur, rfl, _, _, hnc, _⟩
    · simp [Builtin.append_, run_underlying ht, sizeOf, typeInfo, hi, Builtin.lenOf, Builtin.firstCells]
    · simp [Builtin.append_, run_underlying ht, sizeOf, typeInfo, hi, Builtin.lenOf, Builtin.firstCells, hnc, storeCells]
  · have hc' : ∀ j u, cs'[j]? = some u → W.cell? (ad.add j) = some u := by
      intro j u hu
      have hj := (List.getElem?_eq_some_iff.1 hu).1
      have := hreps.1
      obtain ⟨ad', e, h⟩ := hcells (by omega)
      injection e with e
      subst e
      exact h j u hu
    have hone : ∀ u ∈ cs', u.oneCell' = true := by
      intro u hu
      obtain ⟨j, hj, rfl⟩ := List.mem_iff_getElem.1 hu
      have hcl := hreps.1
      have hj2 : j / 2 < ys.length := by omega
      obtain ⟨v1, e1, hx⟩ := hreps.2 (j / 2) _ (List.getElem?_eq_getElem hj2)
      have e2 : (cs'.drop (j / 2 * 2)).take 2 = [cs'[j / 2 * 2]'(by omega), cs'[j / 2 * 2 + 1]'(by omega)] := by
        apply List.ext_getElem?
        intro k
        rw [List.getElem?_take, List.getElem?_drop]
        match k with
        | 0 => rw [if_pos (by decide), Nat.add_zero, List.getElem?_eq_getElem (by omega)]; rfl
        | 1 => rw [if_pos (by decide), List.getElem?_eq_getElem (by omega)]; rfl
        | k + 2 => rw [if_neg (by omega)]; rfl
      rw [e2] at e1
      injection e1 with e3 e4
      injection e4 with e4 _
      rcases Nat.mod_two_eq_zero_or_one j with hm | hm
      · have : j / 2 * 2 = j := by omega
        simp only [this] at e3
        rw [e3]; rfl
      · have : j / 2 * 2 + 1 = j := by omega
        simp only [this] at e4
        rw [e4]
        obtain ⟨A', c', rfl, _⟩ := hx.reads
        rfl
    obtain ⟨v1, w1, hrun, h2, h3, h5⟩ := Lax.run_append (P := Pg) W base t ty 58 i0 _ 2 32 ht hi hz0 hz1 hz2 rfl (by omega) v xs.length cs HO' ad m c cs' (by rw [hreps.1, hm]) hc' hone (by simp only [maxLen]; omega) hl hbase
    have hne : ∀ {p c}, pxR W base p c → pxR w1 base p c := by
      rintro p c ⟨u, e, hx⟩
      refine ⟨u, e, Lax.grown hx h3 fun k hk e => ?_⟩
      obtain ⟨c1, h1⟩ := Lax.typed hx k hk
      obtain ⟨c2, h2⟩ := HO'.typed k e.symm
      rw [h1] at h2
      injection h2 with h2
      injection h2 with _ h2
      exact absurd h2 (by decide)
    refine ⟨v1, w1, hrun, by rw [List.length_append, hm]; exact h2, ?_, h3, h5⟩
    refine ⟨by rw [List.length_append, List.length_append, hr.1, hreps.1, Nat.add_mul], fun j p hj => ?_⟩
    rcases Nat.lt_or_ge j xs.length with hlt | hge
    · rw [List.getElem?_append_left hlt] at hj
      have h6 := hr.2 j p hj
      have h7 : j * 2 + 2 ≤ cs.length := by rw [hr.1]; omega
      rw [List.drop_append_of_le_length (by omega), List.take_append_of_le_length (by rw [List.length_drop]; omega)]
      exact hne h6
    · rw [List.getElem?_append_right hge] at hj
      have h6 := hreps.2 _ p hj
      rw [List.drop_append, List.drop_eq_nil_of_le (by rw [hr.1]; omega), List.nil_append, hr.1, ← Nat.sub_mul]
      exact hne h6
/-- append(v, ys...), ys of one's own, of memory behind N. -/
theorem append_row {w0 W : World} (base b2 N N' : Nat) (hgd : o.guard = none) (s x : Operand) (t : TypeId)
    (ho : o.op = .call { callee := .builtin .append, args := #[s, x], argTypes := #[t, t] })
    (ht : Pg.underlying t = some (.slice 58)) (hinfo : (Pg.info? 58).map (fun i => (i.zero, i.size, i.bytes)) = some (some (.agg #[(.int .i64 0), (.slice none 0 0)]), 2, 32))
    (v v' : Value) (xs ys : List P.S58) (hs : a.eval s = v) (hx : a.eval x = v')
    (HO : PxA N W base v xs) (HR : PxA N' W b2 v' ys) (hN : N ≤ b2) (hN2 : N ≤ N') (hb2 : base ≤ b2) (HB : Below base w0 W) (hbase : base ≤ W.heap.size) (hl : (xs.length + ys.length) * 32 ≤ 140737488355328)
    (h : ∀ v1 w1, PxA N' w1 base v1 (xs ++ ys) → Below base w0 w1 → W.grownBy w1 v.ownBlock → wpList Pg ops Q rest (a.put o.dst v1) w1) :
    wpList Pg ops Q (o :: rest) a W := by
  have HOB := HO.block
  obtain ⟨cs, g1, g2, g3⟩ := HO
  obtain ⟨cs', h1, h2, h3⟩ := HR
  obtain ⟨A, c, e⟩ : ∃ A c, v' = .slice A ys.length c := by obtain ⟨A, c, e, _⟩ := Lax.slice h1; exact ⟨A, c, e⟩
  subst e
  obtain ⟨v1, w1, hr, hown, hreps, hg, hat⟩ := run_row (Pg := Pg) base t o.type ht hinfo v xs ys A ys.length c cs' cs g1 g2 rfl (h2.imp_ fun p c ⟨v1, e, h⟩ => ⟨v1, e, Lx.lower h hb2⟩) (fun hp => by
    rcases h1.2 with ⟨he, hn⟩ | ⟨g, cap, cur, he, _⟩
    · omega
    · injection he with he _ _
      subst he
      exact ⟨_, rfl, fun j u hu => h1.cells (g := g) rfl j u hu⟩) hbase hl
  refine wpList_plain hgd fun K hK => ?_
  unfold Oper.wp execOp
  simp only [ho, resolve, invoke, builtin, Sem.run_bind, Sem.run_pure, Result.andThen_ok, List.map_toArray, List.map_cons, List.map_nil, hs, hx, hr]
  refine hK _ _ (h v1 w1 ⟨cs ++ cs', hown, hreps, apc_append g2.1 g3 h3 hN2 fun i hi u k hu hk => ?_⟩ (HB.grown hg hbase (fun k hk => (HOB k hk).1)) hg)
  obtain ⟨v2, e2, _, hx2⟩ := pxR_pos h2 i hi
  rw [e2] at hu
  injection hu with hu
  subst hu
  exact Nat.le_trans hN (Lax.base_le hx2 k hk)
/-- append(v, y), y's positions behind N. -/
theorem append_one {w0 W : World} (base N : Nat) (hgd : o.guard = none) (s x : Operand) (t : TypeId)
    (ho : o.op = .call { callee := .builtin .append, args := #[s, x], argTypes := #[t, t] })
    (ht : Pg.underlying t = some (.slice 58)) (hinfo : (Pg.info? 58).map (fun i => (i.zero, i.size, i.bytes)) = some (some (.agg #[(.int .i64 0), (.slice none 0 0)]), 2, 32))
    (v : Value) (xs : List P.S58) (y : P.S58) (u : Value) (gN : Nat) (hN : gN = W.heap.size) (hs : a.eval s = v) (hx : a.eval x = .slice (some ⟨gN, 0, none⟩) 1 1)
    (HO : PxA N W base v xs) (HY : Lx .i64 3 W N u y.f1) (hNb : base ≤ N) (HB : Below base w0 W) (hbase : base ≤ W.heap.size) (hNs : N ≤ W.heap.size) (hl : (xs.length + 1) * 32 ≤ 140737488355328)
    (h : ∀ v1 w1, PxA W.heap.size w1 base v1 (xs ++ [y]) → Below base w0 w1 → W.grownBy w1 v.ownBlock → wpList Pg ops Q rest (a.put o.dst v1) w1) :
    wpList Pg ops Q (o :: rest) a (W.alloc (.cells #[.int .i64 y.f0, u] 58)) := by
  subst hN
  have HOB := HO.block
  have hl0 : xs.length ≤ 9223372036854775807 := by omega
  have hreps : Reps (pxR (W.alloc (.cells #[.int .i64 y.f0, u] 58)) base) 2 [y] [.int .i64 y.f0, u] := ⟨rfl, fun j p hj => by
    match j with
    | 0 => simp only [List.getElem?_cons_zero, Option.some.injEq] at hj; subst hj; exact ⟨u, rfl, Lx.lower (HY.alloc _) hNb⟩
    | j + 1 => simp at hj⟩
  have hO : PxA N (W.alloc (.cells #[.int .i64 y.f0, u] 58)) base v xs := HO.below (below_alloc (Below.refl _ _) _)
  obtain ⟨cs, g1, g2, g3⟩ := hO
  obtain ⟨v1, w1, hr, hown, hreps2, hg, hat⟩ := run_row (Pg := Pg) base t o.type ht hinfo v xs [y] (some ⟨W.heap.size, 0, none⟩) 1 1 _ cs g1 g2 rfl hreps (fun _ => ⟨_, rfl, fun j u' hu => by
    rw [add_plain]
    have hb := blk_cell (blk_new W (.cells #[.int .i64 y.f0, u] 58)) j
    rw [hb]
    simpa using hu⟩) (by simp; omega) (by simpa using hl)
  refine wpList_plain hgd fun K hK => ?_
  unfold Oper.wp execOp
  simp only [ho, resolve, invoke, builtin, Sem.run_bind, Sem.run_pure, Result.andThen_ok, List.map_toArray, List.map_cons, List.map_nil, hs, hx, hr]
  refine hK _ _ (h v1 w1 ⟨_, hown, hreps2, apc_append g2.1 g3 (N' := W.heap.size) ⟨fun i j hi hj hij => ?_, fun i hi u' k hu hk => ?_⟩ hNs fun i hi u' k hu hk => ?_⟩ ((HB.alloc hbase _).grown hg (by simp; omega) (fun k hk => (HOB k hk).1)) (World.grownBy.trans (World.grownBy_alloc W _ _) hg))
  · simp at hi hj; omega
  · have : i = 0 := by simp at hi; omega
    subst this
    simp at hu
    subst hu
    exact Lax.lt HY k hk
  · have : i = 0 := by simp at hi; omega
    subst this
    simp at hu
    subst hu
    exact Lax.base_le HY k hk
end
end PxA
end Go.Proofs.Ytimlgpfcgklddaa
