/-
Texts of this seat, laid together: A15, A17.
-/
import Derived.Test.YtimlgpfcgklddaaQA13
import Derived.Test.YtimlgpfcgklddaaQA16
namespace Go.Proofs.Ytimlgpfcgklddaa
/-- A block laid behind what is there: the last document, the bytes. -/
def blockStep (l : List P.S58) (st : Int × List Int) (j : Nat) : Int × List Int :=
  let blk := chunkOf 8 l j
  let b := rowsOf st.1 blk
  let e := lastOf st.1 (blk.map fun p => p.f0)
  (e, st.2 ++ uv b.length ++ uv ((e - st.1) % 18446744073709551616) ++ b)
def blocksOf (l : List P.S58) (js : List Nat) : Int × List Int := js.foldl (blockStep l) (-1, uv l.length)
/-- The form of postings. -/
def formOf (l : List P.S58) : List Int := (blocksOf l (List.range ((l.length + 7) / 8))).2
end Go.Proofs.Ytimlgpfcgklddaa
namespace Go.Proofs.Ytimlgpfcgklddaa.P
open Go.RowKit Go.Shelf Go.Proofs.YtimlgpfcgklddaaW.PrintWords Go.Proofs.YtimlgpfcgklddaaW.PrintLast Go.Proofs.YtimlgpfcgklddaaW.PrintMore
attribute [local go_sem] Oper.semAt_some
set_option linter.unusedVariables false
set_option linter.unusedSimpArgs false
def stOf {n : Nat} (l : List S58) (pre : List (Fin n)) : Int × List Int := blocksOf l (pre.map fun j => j.1)
def BuildI {n : Nat} (l : List S58) (w : World) (b4 b5 N : Nat) (pre : List (Fin n)) (W : World) : Prop :=
  ∃ v, W.heap[b4]? = some (.cells #[v] 25 (0, 0)) ∧ W.heap[b5]? = some (.cells #[.int .i64 (stOf l pre).1] 3 (0, 0)) ∧ Lx .u8 5 W w.heap.size v (stOf l pre).2 ∧ Below w.heap.size w W ∧ N ≤ W.heap.size
theorem BuildI.own {n : Nat} (l : List S58) (w : World) (b4 b5 N B : Nat) (hB : w.heap.size ≤ B) : OwnFrom B (BuildI (n := n) l w b4 b5 N) := by
  rintro s W W' row ⟨v, h1, h2, h3, h4, h5⟩ hg hr
  have hne : ∀ k (cs : Array Value) (t : TypeId), W.heap[k]? = some (.cells cs t (0, 0)) → some k ≠ row := by
    intro k cs t hk e
    obtain ⟨_, o, ho, hc⟩ := hr k e.symm
    rw [hk] at ho
    injection ho with ho
    subst ho
    cases hc
  refine ⟨v, (hg.block _ (blk_lt h1) (hne _ _ _ h1)).trans h1, (hg.block _ (blk_lt h2) (hne _ _ _ h2)).trans h2, Lax.grown h3 hg (fun k hk => ?_), h4.grown hg h4.size (fun k e => by have := (hr k e).1; omega), by have := hg.size; omega⟩
  obtain ⟨cells, hc⟩ := Lax.typed h3 k hk
  exact hne _ _ _ hc
theorem rowsOf_len {l : List S58} {last : Int} (ok : BlockOk l last) : (rowsOf last l).length ≤ 12600000 := by
  have HDl : (docsOf last l).length ≤ 16384 ∧ ∀ x ∈ docsOf last l, -9223372036854775808 ≤ x ∧ x ≤ 9223372036854775807 := ⟨by unfold docsOf; rw [gaps_length, List.length_map]; exact ok.n, fun x hx => by
    have := gaps_range (l.map fun p => p.f0) (-1) 16383 (fun y hy => by
      obtain ⟨q, hq, rfl⟩ := List.mem_map.1 hy
      have := ok.docs q hq
      omega) last ok.last0 (by have := ok.last1; omega) x hx
    omega⟩
  have HFl : (freqsOf l).length ≤ 16384 ∧ ∀ x ∈ freqsOf l, -9223372036854775808 ≤ x ∧ x ≤ 9223372036854775807 := ⟨by unfold freqsOf; rw [List.length_map]; exact ok.n, fun x hx => by
    obtain ⟨q, hq, rfl⟩ := List.mem_map.1 hx
    have h1 := ok.tot
    have h2 : q.f1.length ≤ (l.map fun p => p.f1.length).sum := sum_mem_le (List.mem_map.2 ⟨q, hq, rfl⟩)
    omega⟩
  have HPl : (placesOf l).length ≤ 1048576 ∧ ∀ x ∈ placesOf l, -9223372036854775808 ≤ x ∧ x ≤ 9223372036854775807 := ⟨by rw [places_len]; exact ok.tot, fun x hx => by
    obtain ⟨q, hq, hx⟩ := List.mem_flatMap.1 hx
    have := diffs_range q.f1 0 1048576 (ok.pos q hq).2 0 (by omega) (by omega) x hx
    omega⟩
  have h1 := packPut_len _ HDl.2
  have h2 := packPut_len _ HFl.2
  have h3 := packPut_len _ HPl.2
  unfold rowsOf
  rw [List.length_append, List.length_append]
  omega
theorem lastOf_ok {xs : List S58} {last : Int} (ok : BlockOk xs last) : -1 ≤ lastOf last (xs.map fun p => p.f0) ∧ lastOf last (xs.map fun p => p.f0) ≤ 16383 :=
  lastOf_range _ (-1) 16383 (fun y hy => by
    obtain ⟨q, hq, rfl⟩ := List.mem_map.1 hy
    have := ok.docs q hq
    omega) last ok.last0 (by have := ok.last1; omega)
theorem lastOf_end (xs : List S58) (h : 1 ≤ xs.length) (last : Int) : lastOf last (xs.map fun p => p.f0) = (rd_T58 xs ((xs.length - 1 : Nat) : Int)).f0 := by
  obtain ⟨ys, y, rfl⟩ : ∃ ys y, xs = ys ++ [y] := ⟨xs.dropLast, xs.getLast (by intro e; rw [e] at h; simp at h), (List.dropLast_concat_getLast _).symm⟩
  rw [List.map_append, List.map_cons, List.map_nil, lastOf_snoc]
  unfold rd_T58
  rw [Int.toNat_natCast]
  simp
theorem stOf_snoc {n : Nat} (l : List S58) (pre : List (Fin n)) (x : Fin n) : stOf l (pre ++ [x]) = blockStep l (stOf l pre) x.1 := by unfold stOf blocksOf; rw [List.map_append, List.foldl_append]; rfl
theorem stOf_all (l : List S58) : (stOf l (List.finRange (cuts 8 l.length))).2 = formOf l := by
  unfold stOf formOf cuts
  rw [show (List.finRange ((l.length + 8 - 1) / 8)).map (fun j => j.1) = List.range ((l.length + 7) / 8) from by
    apply List.ext_getElem
    · simp
    · intro i h1 h2
      simp]
theorem list_snoc_ind {α : Type} {p : List α → Prop} (h0 : p []) (h1 : ∀ l x, p l → p (l ++ [x])) (l : List α) : p l := by
  have : ∀ r : List α, p r.reverse := by
    intro r
    induction r with
    | nil => exact h0
    | cons x r ih => rw [List.reverse_cons]; exact h1 _ _ ih
  have h := this l.reverse
  rwa [List.reverse_reverse] at h
theorem stOf_range {n : Nat} (l : List S58) (hb : ∀ (j : Nat) (last : Int), -1 ≤ last → last < 16384 → BlockOk (chunkOf 8 l j) last) (pre : List (Fin n)) : -1 ≤ (stOf l pre).1 ∧ (stOf l pre).1 ≤ 16383 := by
  refine list_snoc_ind (p := fun pre : List (Fin n) => -1 ≤ (stOf l pre).1 ∧ (stOf l pre).1 ≤ 16383) ⟨by show (-1 : Int) ≤ -1; omega, by show (-1 : Int) ≤ 16383; omega⟩ (fun pre x ih => ?_) pre
  rw [stOf_snoc]
  exact lastOf_ok (hb x.1 _ ih.1 (by omega))
theorem stOf_len {n : Nat} (l : List S58) (hn : l.length ≤ 140737488355328) (hb : ∀ (j : Nat) (last : Int), -1 ≤ last → last < 16384 → BlockOk (chunkOf 8 l j) last) (pre : List (Fin n)) : (stOf l pre).2.length ≤ 1000 + 12700000 * pre.length := by
  refine list_snoc_ind (p := fun pre : List (Fin n) => (stOf l pre).2.length ≤ 1000 + 12700000 * pre.length) ?_ (fun pre x ih => ?_) pre
  · show (uv (l.length : Int)).length ≤ _
    have := uv_len (u := (l.length : Int)) (by omega)
    omega
  · have h1 := stOf_range l hb pre
    have hbk := hb x.1 (stOf l pre).1 h1.1 (by omega)
    have h2 := lastOf_ok hbk
    have h3 := rowsOf_len hbk
    rw [stOf_snoc]
    unfold blockStep
    simp only [List.length_append, List.length_singleton]
    have h4 := uv_len (u := ((rowsOf (stOf l pre).1 (chunkOf 8 l x.1)).length : Int)) (by omega)
    have h5 := uv_len (u := (lastOf (stOf l pre).1 ((chunkOf 8 l x.1).map fun p => p.f0) - (stOf l pre).1) % 18446744073709551616) (by omega)
    omega
set_option maxRecDepth 100000 in
set_option maxHeartbeats 4000000 in
theorem Build_yes (A : Option Addr) (l : List S58) (c : Nat) (w : World) (h : Kd.C k58 w A l.length l) (hc : l.length ≤ c) (ok : rightB (-1) 0 l = true) (M : Nat) (hl : ∀ p ∈ l, p.f1.length ≤ M) (hM : M ≤ 140737488355328) (hn : l.length ≤ 16384) (hblk : ∀ (j : Nat) (last : Int), -1 ≤ last → last < 16384 → BlockOk (chunkOf 8 l j) last) :
    Calls Try.prog 10 #[.slice A l.length c] w fun e w' => ∃ v, e = .returned (.tuple #[v, .int .i64 0]) ∧ Lx .u8 5 w' w.heap.size v (formOf l) ∧ Below w.heap.size w w' := by
  have H := Aside0.mk h
  have HR := Aside0.mk hl
  have HBK := Aside0.mk hblk
  have HOK := Aside0.mk ok
  have HA : Aside0 (A = none → l.length = 0) := ⟨fun e => by
    rcases Nat.eq_zero_or_pos l.length with h0 | h0
    · exact h0
    · obtain ⟨ad, e', _⟩ := h.2.2 h0
      rw [e] at e'
      cases e'⟩
  have HNIL := Aside0.mk (Kd.C_nil (Kd.int .u8) w)
  clear h hl ok hblk
  refine (callsIn_wide (n := 4)).1 ?_
  refine callsIn_of_wp_marks Try.func10 rfl trivial ?_ rfl
  simp only [Try.ntmps10, List.size_toArray, List.length_cons, List.length_nil, Nat.reduceAdd, Nat.reduceSub, Array.replicate_succ, Array.replicate_zero, List.push_toArray, List.append_toArray, List.nil_append, List.cons_append]
  gi_wp2_with (first | (refine ⟨trivial, ?_⟩; gi_at_call 41; refine (callsIn_wide.2 (right_calls A c l _ H.out hc M HR.out hM (by omega))).mono ?_; rintro e w1 ⟨rfl, hb1⟩; rw [HOK.out]; have HB1 := Aside0.mk hb1; clear hb1) | (refine ⟨trivial, ?_⟩; gi_at_call 42; refine (callsIn_wide.2 (PutUint_calls none [] 0 _ _ (Kd.C_nil _ _) (Nat.le_refl _) (by simp) (by omega) (by omega))).mono ?_; rintro e w2 ⟨v2, rfl, ho2, hb2⟩; rw [List.nil_append] at ho2; obtain ⟨o0, ho0⟩ : ∃ o0, uv (l.length : Int) = o0 := ⟨_, rfl⟩; rw [ho0] at ho2; have HO0 := Aside0.mk ho0; clear ho0; obtain ⟨A2, c2, rfl, hc2, _⟩ := ho2.reads; have HO2 := Aside0.mk ho2; have HB2 := Aside0.mk hb2; clear ho2 hb2) | (refine ⟨trivial, ?_⟩; gi_at_call 43; refine (callsIn_wide.2 (Chunk43_calls A l.length c 8 _ (by omega) (by omega))).mono ?_; rintro e w3 ⟨rfl, rfl⟩))
  obtain ⟨W0, hW0⟩ : ∃ W0, (((w2.alloc (.cells #[.slice A2 o0.length c2] 25)).alloc (.cells #[.int .i64 (-1)] 3)).alloc (.cells #[.slice A l.length c] 22)).alloc (.cells #[.int .i64 8] 3) = W0 := ⟨_, rfl⟩
  have hsz : W0.heap.size = w2.heap.size + 4 := by rw [← hW0]; simp
  have hb0 : W0.heap[w2.heap.size]? = some (.cells #[.slice A2 o0.length c2] 25 (0, 0)) := by
    rw [← hW0, Below.heap_alloc _ _ _ (by first | (simp; done) | (simp; omega)), Below.heap_alloc _ _ _ (by first | (simp; done) | (simp; omega)), Below.heap_alloc _ _ _ (by simp)]; exact blk_new w2 _
  have hb1 : W0.heap[w2.heap.size + 1]? = some (.cells #[.int .i64 (-1)] 3 (0, 0)) := by
    rw [← hW0, Below.heap_alloc _ _ _ (by first | (simp; done) | (simp; omega)), Below.heap_alloc _ _ _ (by simp)]
    have := blk_new (w2.alloc (.cells #[.slice A2 o0.length c2] 25)) (.cells #[.int .i64 (-1)] 3)
    rwa [World.size_alloc] at this
  have hb2 : W0.heap[w2.heap.size + 1 + 1]? = some (.cells #[.slice A l.length c] 22 (0, 0)) := by
    rw [← hW0, Below.heap_alloc _ _ _ (by simp)]
    have := blk_new ((w2.alloc (.cells #[.slice A2 o0.length c2] 25)).alloc (.cells #[.int .i64 (-1)] 3)) (.cells #[.slice A l.length c] 22)
    rwa [World.size_alloc, World.size_alloc] at this
  have hb3 : W0.heap[w2.heap.size + 1 + 1 + 1]? = some (.cells #[.int .i64 8] 3 (0, 0)) := by
    rw [← hW0]
    have := blk_new (((w2.alloc (.cells #[.slice A2 o0.length c2] 25)).alloc (.cells #[.int .i64 (-1)] 3)).alloc (.cells #[.slice A l.length c] 22)) (.cells #[.int .i64 8] 3)
    rwa [World.size_alloc, World.size_alloc, World.size_alloc] at this
  have hB02 : Below w2.heap.size w2 W0 := by
    rw [← hW0]
    exact (((((Below.refl _ w2).alloc (Nat.le_refl _) _).alloc (by simp) _).alloc (by first | (simp; done) | (simp; omega)) _).alloc (by first | (simp; done) | (simp; omega)) _)
  have hw12 : w.heap.size ≤ w2.heap.size := Nat.le_trans HB1.out.size HB2.out.size
  have hB0 : Below w.heap.size w W0 := (HB1.out.trans (HB2.out.mono HB1.out.size)).trans (hB02.mono hw12)
  have hL0 : Lx .u8 5 W0 w.heap.size (.slice A2 o0.length c2) o0 := Lx.lower (Lx.below HO2.out hB02) HB1.out.size
  rw [hW0]
  clear hW0
  have hst := chunk75_stops Fence.wide 3 trivial rfl (by omega) (w2.heap.size + 1 + 1) (w2.heap.size + 1 + 1 + 1) 8 l.length c A (by omega) (by omega) (by omega) hc HA.out W0 (by omega) (by omega) (blk_cell hb2 0) (blk_cell hb3 0)
  refine wpIn_rangeFunc_ownG rfl (by omega) (gf := 75) (lb := #[.pointer (some ⟨w2.heap.size + 1 + 1, 0, none⟩), .pointer (some ⟨w2.heap.size + 1 + 1 + 1, 0, none⟩)]) rfl trivial (enters_of Try.func75 (by kernel_rfl) rfl) hst (fun h k => h.trans k) (Keep2.b (by omega) (by omega)) (Below.refl _ _) (fun _ => rfl)
    (BuildI l w w2.heap.size (w2.heap.size + 1) W0.heap.size) (fun _ _ _ => False) (BuildI.own l w _ _ _ _ (by omega)) (fun _ _ _ _ _ hs _ _ => hs) ⟨_, hb0, hb1, by rw [show (stOf l ([] : List (Fin (cuts 8 l.length)))).2 = o0 from HO0.out]; exact hL0, hB0, Nat.le_refl _⟩
    (fun x => { tmps := #[.slice A l.length c, undef, .slice none 0 0, .int .i64 0, .pointer (some ⟨w2.heap.size, 0, none⟩), .pointer (some ⟨w2.heap.size + 1, 0, none⟩), chunkVal 2 A 8 l.length x.1, undef, undef, .slice A l.length c, .bool true, .bool false, .slice A l.length c, .int .i64 l.length, .int .u64 l.length, .slice A2 o0.length c2, .slice A l.length c, .func (.func 75) #[] #[.pointer (some ⟨w2.heap.size + 1 + 1, 0, none⟩), .pointer (some ⟨w2.heap.size + 1 + 1 + 1, 0, none⟩)], chunkVal 2 A 8 l.length x.1, undef, undef, undef, undef, undef, undef, undef, undef, undef, undef, undef, undef, undef, undef, undef, undef, undef, undef, undef, undef, undef, undef, undef, undef, undef, undef], defers := [] }) ?assign ?body ?done ?stop
  case assign =>
    intro l x W K hK
    gi_wp2
    exact hK
  case body =>
    rintro lp pre x W ⟨v, hv, hla, hvx, hB, hBs3⟩ hlen
    rcases A with _ | ad
    · exfalso
      have h1 := HA.out rfl
      have h2 : x.1 < cuts 8 l.length := x.2
      have h3 : cuts 8 l.length = 0 := by rw [h1]; rfl
      omega
    · obtain ⟨hx1, hx2, hx3⟩ := chunkOf_pos (N := 8) (l := l) (by omega) rfl x
      have hC : Kd.C k58 W (some (ad.add (x.1 * 8 * 2))) (chunkOf 8 l x.1).length (chunkOf 8 l x.1) := C_chunk (N := 8) (Kd.C_below H.out hB) x.1 (by omega)
      have hval : chunkVal 2 (some ad) 8 l.length x.1 = .slice (some (ad.add (x.1 * 8 * 2))) (chunkOf 8 l x.1).length (chunkOf 8 l x.1).length := by
        rw [chunkOf_len]; rfl
      have hlr := stOf_range l HBK.out pre
      have hxs : stOf l (pre ++ [x]) = blockStep l (stOf l pre) x.1 := by unfold stOf blocksOf; rw [List.map_append, List.foldl_append]; rfl
      have hol := stOf_len l (by omega) HBK.out pre
      have hbk := HBK.out x.1 (stOf l pre).1 hlr.1 (by omega)
      rw [hval]
      unfold blockStep at hxs
      dsimp only at hxs
      generalize ad.add (x.1 * 8 * 2) = ad' at hC ⊢
      generalize chunkOf 8 l x.1 = xs at hC hx2 hx3 hbk hxs ⊢
      obtain ⟨la, hlae⟩ : ∃ la, (stOf l pre).1 = la := ⟨_, rfl⟩
      obtain ⟨out, hout⟩ : ∃ out, (stOf l pre).2 = out := ⟨_, rfl⟩
      rw [hlae] at hla hlr hxs hbk
      rw [hout] at hvx hol hxs
      have HBKx := Aside0.mk hbk
      have HCX : Aside0 (Kd.C k58 W (some ad') xs.length xs) := ⟨hC⟩
      have HV := Aside0.mk hvx
      have HBX := Aside0.mk hB
      obtain ⟨A3, c3, rfl, hc3, _⟩ := hvx.reads
      have HBo := Aside0.mk hv
      have HBl := Aside0.mk hla
      have hc4 := blk_cell hv 0
      have hc5 := blk_cell hla 0
      obtain ⟨hla0, hla1⟩ := hlr
      have hend := lastOf_end xs hx2 la
      obtain ⟨ad2, A5, c5, e5, hx0, _, _, _⟩ := at_T58 hC ((xs.length - 1 : Nat) : Int) (by omega) (by omega)
      cases e5
      rw [Int.toNat_natCast] at hx0
      obtain ⟨en, hene⟩ : ∃ en, (rd_T58 xs ((xs.length - 1 : Nat) : Int)).f0 = en := ⟨_, rfl⟩
      rw [hene] at hx0 hend
      have hen := lastOf_ok hbk
      rw [hend] at hen hxs
      obtain ⟨hen0, hen1⟩ := hen
      have HX := Aside0.mk hxs
      have HEND := Aside0.mk hend
      clear hval hxs hbk hC hvx hB hv hla hlae hout hst hene hend hb0 hb1 hb2 hb3 hB02 hB0 hL0
      gi_wp2_with (first | (refine ⟨trivial, ?_⟩; gi_at_call 44; refine (CallsIn.inRound lp (callsIn_wide.2 (rows_calls _ _ _ _ _ HCX.out (Nat.le_refl _) HBKx.out))).mono ?_; rintro e w1 ⟨v1, rfl, ho1, hb1⟩; obtain ⟨b, hbe⟩ : ∃ b, rowsOf la xs = b := ⟨_, rfl⟩; rw [hbe] at ho1; have HBE := Aside0.mk hbe; clear hbe; obtain ⟨A4, c4, rfl, hc44, _⟩ := ho1.reads; have hx0' := pw_cell_below hb1 hx0; have HO4 := Aside0.mk ho1; have HB4 := Aside0.mk hb1; have hb4' := (hb1.block _ (blk_lt HBo.out)).trans HBo.out; have hb5' := (hb1.block _ (blk_lt HBl.out)).trans HBl.out; have hk4 := blk_cell hb4' 0; have hk5 := blk_cell hb5' 0; have hf4 := blk_frozen hb4' 0; have hf5 := blk_frozen hb5' 0; have HB4' := Aside0.mk hb4'; have HB5' := Aside0.mk hb5'; clear ho1 hb1 hb4' hb5'))
      have HC3 : Aside0 ((Kd.int .u8).C w1 A3 out.length out) := ⟨(Lx.reads' (Lx.below HV.out HB4.out)).2.2⟩
      have HBL : Aside0 (b.length ≤ 12600000) := ⟨by rw [← HBE.out]; exact rowsOf_len HBKx.out⟩
      have HOL : Aside0 (out.length ≤ 140737400000000) := ⟨by
        have h2 : cuts 8 l.length ≤ 2049 := by unfold cuts; omega
        have h3 := hlen
        omega⟩
      obtain ⟨q, hqe⟩ : ∃ q, (en - la) % 18446744073709551616 = q := ⟨_, rfl⟩
      have hq0 : 0 ≤ q := by omega
      have HQ1 : Aside0 (q < 18446744073709551616) := ⟨by omega⟩
      have hwb : IntKind.u64.wrap (b.length : Int) = (b.length : Int) := by have := HBL.out; rw [wrap_u64]; omega
      have hwi : IntKind.i64.wrap (en - la) = en - la := by rw [IntKind.wrap_i64]; omega
      have hwe : IntKind.u64.wrap (en - la) = q := by rw [wrap_u64]; exact hqe
      have HQE := Aside0.mk hqe
      clear hqe
      have hfo : Try.prog.follows Departure.mixedOrders = true := by kernel_rfl
      refine wpIn_region_inRound rfl hfo (by kernel_rfl) ?_
      refine wpAnyIn_take (i := 1) (v := ?_) rfl rfl (by kernel_rfl) (by kernel_rfl) (by kernel_rfl) (fun _ _ _ h => h) ⟨Or.inl ⟨by rfl, ?_⟩, fun _ => rfl⟩ ?_
      rotate_left
      · intro w; go_simp; try with_reducible rfl
      refine wpAnyIn_take (i := 2) (v := ?_) rfl rfl (by kernel_rfl) (by kernel_rfl) (by kernel_rfl) (fun _ _ _ h => h) ⟨Or.inl ⟨by rfl, ?_⟩, fun _ => rfl⟩ ?_
      rotate_left
      · intro w; go_simp; try with_reducible rfl
      refine wpAnyIn_take (i := 3) (v := ?_) rfl rfl (by kernel_rfl) (by kernel_rfl) (by kernel_rfl) (fun _ _ _ h => h) ⟨Or.inl ⟨by rfl, ?_⟩, fun _ => rfl⟩ ?_
      rotate_left
      · intro w; go_simp; try with_reducible rfl
      refine wpAnyIn_take (i := 5) (v := ?_) rfl rfl (by kernel_rfl) (by kernel_rfl) (by kernel_rfl) (fun _ _ _ h => h) ⟨Or.inl ⟨by rfl, ?_⟩, fun _ => rfl⟩ ?_
      rotate_left
      · intro w; go_simp; try with_reducible rfl
      refine wpAnyIn_ready (rs := [0, 6]) (by kernel_rfl) (by simp) ?_
      refine AllReadyIn.cons rfl (fun K hK => ?_) (AllReadyIn.cons rfl (fun K hK => ?_) AllReadyIn.nil)
      · go_simp
        refine hK _ _ ?_
        clear hK K
        refine wpAnyIn_ready (rs := [4, 6]) (by kernel_rfl) (by simp) ?_
        refine AllReadyIn.cons rfl (fun K hK => ?_) (AllReadyIn.cons rfl (fun K hK => ?_) AllReadyIn.nil)
        · go_simp
          refine ⟨trivial, ?_⟩
          ((with_reducible refine ((callsIn_wide.2 (PutUint_calls A3 out c3 (b.length : Int) _ ?s1 hc3 ?s2 ?s3 ?s4))).mono ?_))
          (case s1 => exact Kd.C_drew HC3.out)
          (case s2 => have h3 := HOL.out; omega)
          (case s3 => omega)
          (case s4 => have h3 := HBL.out; omega)
          rintro e w3 ⟨v3, rfl, ho3, hb3⟩
          obtain ⟨o2, ho2e⟩ : ∃ o2, out ++ uv (b.length : Int) = o2 := ⟨_, rfl⟩
          rw [ho2e] at ho3
          have HE2 := Aside0.mk ho2e
          clear ho2e
          obtain ⟨A6, c6, rfl, hc6, hC6⟩ := ho3.reads
          have HC6 := Aside0.mk hC6
          have HO6 := Aside0.mk ho3
          have HB6 := Aside0.mk hb3
          have hb46 := (hb3.block _ (blk_lt HB4'.out)).trans HB4'.out
          have hb56 := (hb3.block _ (blk_lt HB5'.out)).trans HB5'.out
          have hk46 := blk_cell hb46 0
          have hk56 := blk_cell hb56 0
          have HB46 := Aside0.mk hb46
          have HB56 := Aside0.mk hb56
          clear hC6 ho3 hb3 hb46 hb56
          refine hK _ _ ?_
          clear hK K
          refine wpAnyIn_ready (rs := [6]) (by kernel_rfl) (by simp) ?_
          refine AllReadyIn.cons rfl (fun K hK => ?_) AllReadyIn.nil
          go_simp
          refine hK _ _ ?_
          clear hK K
          refine wpAnyIn_take (i := 7) (v := ?_) rfl rfl (by kernel_rfl) (by kernel_rfl) (by kernel_rfl) (fun _ _ _ h => h) ⟨Or.inl ⟨by rfl, ?_⟩, fun _ => rfl⟩ ?_
          rotate_left
          · intro w; go_simp; try with_reducible rfl
          refine wpAnyIn_take (i := 8) (v := ?_) rfl rfl (by kernel_rfl) (by kernel_rfl) (by kernel_rfl) (fun _ _ _ h => h) ⟨Or.inl ⟨by rfl, ?_⟩, fun _ => rfl⟩ ?_
          rotate_left
          · intro w; go_simp; try with_reducible rfl
          refine wpAnyIn_ready (rs := [9]) (by kernel_rfl) (by simp) ?_
          refine AllReadyIn.cons rfl (fun K hK => ?_) AllReadyIn.nil
          go_simp
          refine ⟨trivial, ?_⟩
          ((with_reducible refine ((callsIn_wide.2 (PutUint_calls A6 o2 c6 q _ ?s1 hc6 ?s2 ?s3 ?s4))).mono ?_))
          (case s1 => exact HC6.out)
          (case s2 => have h1 := congrArg List.length HE2.out; have h2 := (uv_len (u := (b.length : Int)) (by have h3 := HBL.out; omega)).2; have h3 := HOL.out; rw [List.length_append] at h1; omega)
          (case s3 => exact hq0)
          (case s4 => exact HQ1.out)
          rintro e w4 ⟨v4, rfl, ho4, hb4⟩
          obtain ⟨o3, ho3e⟩ : ∃ o3, o2 ++ uv q = o3 := ⟨_, rfl⟩
          rw [ho3e] at ho4
          have HE3 := Aside0.mk ho3e
          clear ho3e
          obtain ⟨A7, c7, rfl, hc7, _⟩ := ho4.reads
          have HO7 := Aside0.mk ho4
          have HB7 := Aside0.mk hb4
          have hb47 := (hb4.block _ (blk_lt HB46.out)).trans HB46.out
          have hb57 := (hb4.block _ (blk_lt HB56.out)).trans HB56.out
          have hk47 := blk_cell hb47 0
          have hf47 := blk_frozen hb47 0
          have hk57 := blk_cell hb57 0
          have HB47 := Aside0.mk hb47
          have HB57 := Aside0.mk hb57
          clear ho4 hb4 hb47 hb57
          refine hK _ _ ?_
          clear hK K
          refine wpAnyIn_ready (rs := [10]) (by kernel_rfl) (by simp) ?_
          refine AllReadyIn.cons rfl (fun K hK => ?_) AllReadyIn.nil
          go_simp
          refine hK _ _ ?_
          clear hK K
          refine wpAnyIn_done (by kernel_rfl) ?_ _
          have hb43 : Below W.heap.size w1 w3 := (Below.drew (Below.refl _ w1)).trans (HB6.out.mono HB4.out.size)
          have hb44 : Below w1.heap.size w1 w4 := ((Below.drew (Below.refl _ w1)).trans HB6.out).trans (HB7.out.mono HB6.out.size)
          have hb4W : Below W.heap.size W w4 := HB4.out.trans (hb44.mono HB4.out.size)
          have hs3 := hb43.size
          have hs1 := HB4.out.size
          have hs4 := HB7.out.size
          have HO8 : Aside0 (Lx .u8 5 (w4.setCell ⟨w2.heap.size, 0, none⟩ (.slice A7 o3.length c7)) W.heap.size (.slice A7 o3.length c7) o3) := ⟨Lax.lower (Lax.far (p := ⟨w2.heap.size, 0, none⟩) HO7.out (fun k hk => by have := Lax.base_le HO7.out k hk; show k ≠ w2.heap.size; omega) (.slice A7 o3.length c7)) (by omega)⟩
          have HR8 : Aside0 ((Kd.int .u8).C (w4.setCell ⟨w2.heap.size, 0, none⟩ (.slice A7 o3.length c7)) A4 b.length b) := ⟨(Lx.reads' (Lax.far (p := ⟨w2.heap.size, 0, none⟩) (Lx.below HO4.out hb44) (fun k hk => by have := Lax.base_le HO4.out k hk; show k ≠ w2.heap.size; omega) (.slice A7 o3.length c7))).2.2⟩
          have HS4 : Aside0 (W.heap.size ≤ (w4.setCell ⟨w2.heap.size, 0, none⟩ (.slice A7 o3.length c7)).heap.size) := ⟨by simp [World.setCell]; omega⟩
          have HL3 : Aside0 (o3.length ≤ 140737400001000) := ⟨by
            have h1 := congrArg List.length HE2.out
            have h2 := congrArg List.length HE3.out
            have h3 := HOL.out
            have h5 := HBL.out
            have h6 := HQ1.out
            have h4 := uv_len (u := (b.length : Int)) (by omega)
            have h7 := uv_len (u := q) (by omega)
            rw [List.length_append] at h1 h2
            omega⟩
          have HB4W := Aside0.mk hb4W
          have hBB : Aside0 (w2.heap.size + 1 < W.heap.size) := ⟨by omega⟩
          clear hb43 hb44 hb4W hs3 hs1 hs4
          gi_wp2_with ((with_reducible refine gi_gate (xs := #[.tmp 39, .tmp 40]) rfl ?_); gi_at_builtin; refine Lx.append_row_in (w0 := w4.setCell ⟨w2.heap.size, 0, none⟩ (.slice A7 o3.length c7)) .u8 W.heap.size rfl (.tmp 39) (.tmp 40) 25 5 1 rfl Try.underlying25 info5 (by decide) (.slice A7 o3.length c7) o3 b A4 b.length c4 rfl rfl ?aO ?aR ?aB ?aS ?aL ?_; (case aO => exact HO8.out); (case aR => exact HR8.out); (case aB => exact Below.refl _ _); (case aS => exact HS4.out); (case aL => have h1 := HL3.out; have h2 := HBL.out; omega); intro v6 w6 ho6 hb6 _ _; obtain ⟨o4, ho4e⟩ : ∃ o4, o3 ++ b = o4 := ⟨_, rfl⟩; rw [ho4e] at ho6; have HE4 := Aside0.mk ho4e; clear ho4e; obtain ⟨A8, c8, rfl, _, _⟩ := ho6.reads; have hbx6 := (hb6.block _ (by have := hBB.out; show w2.heap.size < W.heap.size; omega)).trans (blk_set HB47.out 0 (.slice A7 o3.length c7)); have hby6 := (hb6.block _ hBB.out).trans (blk_far HB57.out (p := ⟨w2.heap.size, 0, none⟩) (by show w2.heap.size + 1 ≠ w2.heap.size; omega) (.slice A7 o3.length c7)); have hk6 := blk_cell hbx6 0; have hf6 := blk_frozen hbx6 0; have hk7 := blk_cell (blk_far hby6 (p := ⟨w2.heap.size, 0, none⟩) (by show w2.heap.size + 1 ≠ w2.heap.size; omega) (.slice A8 o4.length c8)) 0; have hf7 := blk_frozen (blk_far hby6 (p := ⟨w2.heap.size, 0, none⟩) (by show w2.heap.size + 1 ≠ w2.heap.size; omega) (.slice A8 o4.length c8)) 0; have HO9 := Aside0.mk ho6; have HB8 := Aside0.mk hb6; have HBX6 := Aside0.mk hbx6; have HBY6 := Aside0.mk hby6; clear ho6 hb6 hbx6 hby6)
          have hgr := two_stores (u' := .slice A8 o4.length c8) HB4W.out HB8.out
          have hgr2 := grownBy_setCell' (w6.setCell ⟨w2.heap.size, 0, none⟩ (.slice A8 o4.length c8)) (w2.heap.size + 1) (.int .i64 en)
          have hs6 := hgr.size
          have hs7 := hgr2.size
          have hBB2 := hBB.out
          have hst1 : (stOf l (pre ++ [x])).1 = en := by rw [HX.out]
          have hst2 : (stOf l (pre ++ [x])).2 = o4 := by rw [HX.out]; dsimp only; rw [HBE.out, HQE.out, HE2.out, HE3.out, HE4.out]
          refine ⟨(KeepsFrom.of_grownBy hgr (fun j e => by cases e; omega)).trans (KeepsFrom.of_grownBy hgr2 (fun j e => by cases e; omega)), (Keep2.grown hgr (by omega) (by omega) (fun e => by injection e; omega) (fun e => by injection e; omega)).trans (Keep2.grown hgr2 (by omega) (by omega) (fun e => by injection e; omega) (fun e => by injection e; omega)), ⟨_, blk_far (blk_set HBX6.out 0 _) (p := ⟨w2.heap.size + 1, 0, none⟩) (by show w2.heap.size ≠ w2.heap.size + 1; omega) _, ?_, ?_, (HBX.out.grown hgr (by omega) (fun k e => by cases e; omega)).grown hgr2 (by omega) (fun k e => by cases e; omega), by omega⟩⟩
          · rw [hst1]
            exact blk_set (blk_far HBY6.out (p := ⟨w2.heap.size, 0, none⟩) (by show w2.heap.size + 1 ≠ w2.heap.size; omega) _) 0 _
          · rw [hst2]
            exact Lx.lower (Lx.far (p := ⟨w2.heap.size + 1, 0, none⟩) (Lx.far (p := ⟨w2.heap.size, 0, none⟩) HO9.out (fun k hk => by have := Lax.base_le HO9.out k hk; show k ≠ w2.heap.size; omega) (.slice A8 o4.length c8)) (fun k hk => by have := Lax.base_le HO9.out k hk; show k ≠ w2.heap.size + 1; omega) (.int .i64 en)) (by omega)
        · go_simp
          refine hK _ _ ?_
          clear hK K
          refine wpAnyIn_take (i := 7) (v := ?_) rfl rfl (by kernel_rfl) (by kernel_rfl) (by kernel_rfl) (fun _ _ _ h => h) ⟨Or.inl ⟨by rfl, ?_⟩, fun _ => rfl⟩ ?_
          rotate_left
          · intro w; go_simp; try with_reducible rfl
          refine wpAnyIn_take (i := 8) (v := ?_) rfl rfl (by kernel_rfl) (by kernel_rfl) (by kernel_rfl) (fun _ _ _ h => h) ⟨Or.inl ⟨by rfl, ?_⟩, fun _ => rfl⟩ ?_
          rotate_left
          · intro w; go_simp; try with_reducible rfl
          refine wpAnyIn_ready (rs := [4]) (by kernel_rfl) (by simp) ?_
          refine AllReadyIn.cons rfl (fun K hK => ?_) AllReadyIn.nil
          go_simp
          refine ⟨trivial, ?_⟩
          ((with_reducible refine ((callsIn_wide.2 (PutUint_calls A3 out c3 (b.length : Int) _ ?s1 hc3 ?s2 ?s3 ?s4))).mono ?_))
          (case s1 => exact Kd.C_drew HC3.out)
          (case s2 => have h3 := HOL.out; omega)
          (case s3 => omega)
          (case s4 => have h3 := HBL.out; omega)
          rintro e w3 ⟨v3, rfl, ho3, hb3⟩
          obtain ⟨o2, ho2e⟩ : ∃ o2, out ++ uv (b.length : Int) = o2 := ⟨_, rfl⟩
          rw [ho2e] at ho3
          have HE2 := Aside0.mk ho2e
          clear ho2e
          obtain ⟨A6, c6, rfl, hc6, hC6⟩ := ho3.reads
          have HC6 := Aside0.mk hC6
          have HO6 := Aside0.mk ho3
          have HB6 := Aside0.mk hb3
          have hb46 := (hb3.block _ (blk_lt HB4'.out)).trans HB4'.out
          have hb56 := (hb3.block _ (blk_lt HB5'.out)).trans HB5'.out
          have hk46 := blk_cell hb46 0
          have hk56 := blk_cell hb56 0
          have HB46 := Aside0.mk hb46
          have HB56 := Aside0.mk hb56
          clear hC6 ho3 hb3 hb46 hb56
          refine hK _ _ ?_
          clear hK K
          refine wpAnyIn_ready (rs := [9]) (by kernel_rfl) (by simp) ?_
          refine AllReadyIn.cons rfl (fun K hK => ?_) AllReadyIn.nil
          go_simp
          refine ⟨trivial, ?_⟩
          ((with_reducible refine ((callsIn_wide.2 (PutUint_calls A6 o2 c6 q _ ?s1 hc6 ?s2 ?s3 ?s4))).mono ?_))
          (case s1 => exact HC6.out)
          (case s2 => have h1 := congrArg List.length HE2.out; have h2 := (uv_len (u := (b.length : Int)) (by have h3 := HBL.out; omega)).2; have h3 := HOL.out; rw [List.length_append] at h1; omega)
          (case s3 => exact hq0)
          (case s4 => exact HQ1.out)
          rintro e w4 ⟨v4, rfl, ho4, hb4⟩
          obtain ⟨o3, ho3e⟩ : ∃ o3, o2 ++ uv q = o3 := ⟨_, rfl⟩
          rw [ho3e] at ho4
          have HE3 := Aside0.mk ho3e
          clear ho3e
          obtain ⟨A7, c7, rfl, hc7, _⟩ := ho4.reads
          have HO7 := Aside0.mk ho4
          have HB7 := Aside0.mk hb4
          have hb47 := (hb4.block _ (blk_lt HB46.out)).trans HB46.out
          have hb57 := (hb4.block _ (blk_lt HB56.out)).trans HB56.out
          have hk47 := blk_cell hb47 0
          have hf47 := blk_frozen hb47 0
          have hk57 := blk_cell hb57 0
          have HB47 := Aside0.mk hb47
          have HB57 := Aside0.mk hb57
          clear ho4 hb4 hb47 hb57
          refine hK _ _ ?_
          clear hK K
          refine wpAnyIn_ready (rs := [10]) (by kernel_rfl) (by simp) ?_
          refine AllReadyIn.cons rfl (fun K hK => ?_) AllReadyIn.nil
          go_simp
          refine hK _ _ ?_
          clear hK K
          refine wpAnyIn_done (by kernel_rfl) ?_ _
          have hb43 : Below W.heap.size w1 w3 := (Below.drew (Below.refl _ w1)).trans (HB6.out.mono HB4.out.size)
          have hb44 : Below w1.heap.size w1 w4 := ((Below.drew (Below.refl _ w1)).trans HB6.out).trans (HB7.out.mono HB6.out.size)
          have hb4W : Below W.heap.size W w4 := HB4.out.trans (hb44.mono HB4.out.size)
          have hs3 := hb43.size
          have hs1 := HB4.out.size
          have hs4 := HB7.out.size
          have HO8 : Aside0 (Lx .u8 5 (w4.setCell ⟨w2.heap.size, 0, none⟩ (.slice A7 o3.length c7)) W.heap.size (.slice A7 o3.length c7) o3) := ⟨Lax.lower (Lax.far (p := ⟨w2.heap.size, 0, none⟩) HO7.out (fun k hk => by have := Lax.base_le HO7.out k hk; show k ≠ w2.heap.size; omega) (.slice A7 o3.length c7)) (by omega)⟩
          have HR8 : Aside0 ((Kd.int .u8).C (w4.setCell ⟨w2.heap.size, 0, none⟩ (.slice A7 o3.length c7)) A4 b.length b) := ⟨(Lx.reads' (Lax.far (p := ⟨w2.heap.size, 0, none⟩) (Lx.below HO4.out hb44) (fun k hk => by have := Lax.base_le HO4.out k hk; show k ≠ w2.heap.size; omega) (.slice A7 o3.length c7))).2.2⟩
          have HS4 : Aside0 (W.heap.size ≤ (w4.setCell ⟨w2.heap.size, 0, none⟩ (.slice A7 o3.length c7)).heap.size) := ⟨by simp [World.setCell]; omega⟩
          have HL3 : Aside0 (o3.length ≤ 140737400001000) := ⟨by
            have h1 := congrArg List.length HE2.out
            have h2 := congrArg List.length HE3.out
            have h3 := HOL.out
            have h5 := HBL.out
            have h6 := HQ1.out
            have h4 := uv_len (u := (b.length : Int)) (by omega)
            have h7 := uv_len (u := q) (by omega)
            rw [List.length_append] at h1 h2
            omega⟩
          have HB4W := Aside0.mk hb4W
          have hBB : Aside0 (w2.heap.size + 1 < W.heap.size) := ⟨by omega⟩
          clear hb43 hb44 hb4W hs3 hs1 hs4
          gi_wp2_with ((with_reducible refine gi_gate (xs := #[.tmp 39, .tmp 40]) rfl ?_); gi_at_builtin; refine Lx.append_row_in (w0 := w4.setCell ⟨w2.heap.size, 0, none⟩ (.slice A7 o3.length c7)) .u8 W.heap.size rfl (.tmp 39) (.tmp 40) 25 5 1 rfl Try.underlying25 info5 (by decide) (.slice A7 o3.length c7) o3 b A4 b.length c4 rfl rfl ?aO ?aR ?aB ?aS ?aL ?_; (case aO => exact HO8.out); (case aR => exact HR8.out); (case aB => exact Below.refl _ _); (case aS => exact HS4.out); (case aL => have h1 := HL3.out; have h2 := HBL.out; omega); intro v6 w6 ho6 hb6 _ _; obtain ⟨o4, ho4e⟩ : ∃ o4, o3 ++ b = o4 := ⟨_, rfl⟩; rw [ho4e] at ho6; have HE4 := Aside0.mk ho4e; clear ho4e; obtain ⟨A8, c8, rfl, _, _⟩ := ho6.reads; have hbx6 := (hb6.block _ (by have := hBB.out; show w2.heap.size < W.heap.size; omega)).trans (blk_set HB47.out 0 (.slice A7 o3.length c7)); have hby6 := (hb6.block _ hBB.out).trans (blk_far HB57.out (p := ⟨w2.heap.size, 0, none⟩) (by show w2.heap.size + 1 ≠ w2.heap.size; omega) (.slice A7 o3.length c7)); have hk6 := blk_cell hbx6 0; have hf6 := blk_frozen hbx6 0; have hk7 := blk_cell (blk_far hby6 (p := ⟨w2.heap.size, 0, none⟩) (by show w2.heap.size + 1 ≠ w2.heap.size; omega) (.slice A8 o4.length c8)) 0; have hf7 := blk_frozen (blk_far hby6 (p := ⟨w2.heap.size, 0, none⟩) (by show w2.heap.size + 1 ≠ w2.heap.size; omega) (.slice A8 o4.length c8)) 0; have HO9 := Aside0.mk ho6; have HB8 := Aside0.mk hb6; have HBX6 := Aside0.mk hbx6; have HBY6 := Aside0.mk hby6; clear ho6 hb6 hbx6 hby6)
          have hgr := two_stores (u' := .slice A8 o4.length c8) HB4W.out HB8.out
          have hgr2 := grownBy_setCell' (w6.setCell ⟨w2.heap.size, 0, none⟩ (.slice A8 o4.length c8)) (w2.heap.size + 1) (.int .i64 en)
          have hs6 := hgr.size
          have hs7 := hgr2.size
          have hBB2 := hBB.out
          have hst1 : (stOf l (pre ++ [x])).1 = en := by rw [HX.out]
          have hst2 : (stOf l (pre ++ [x])).2 = o4 := by rw [HX.out]; dsimp only; rw [HBE.out, HQE.out, HE2.out, HE3.out, HE4.out]
          refine ⟨(KeepsFrom.of_grownBy hgr (fun j e => by cases e; omega)).trans (KeepsFrom.of_grownBy hgr2 (fun j e => by cases e; omega)), (Keep2.grown hgr (by omega) (by omega) (fun e => by injection e; omega) (fun e => by injection e; omega)).trans (Keep2.grown hgr2 (by omega) (by omega) (fun e => by injection e; omega) (fun e => by injection e; omega)), ⟨_, blk_far (blk_set HBX6.out 0 _) (p := ⟨w2.heap.size + 1, 0, none⟩) (by show w2.heap.size ≠ w2.heap.size + 1; omega) _, ?_, ?_, (HBX.out.grown hgr (by omega) (fun k e => by cases e; omega)).grown hgr2 (by omega) (fun k e => by cases e; omega), by omega⟩⟩
          · rw [hst1]
            exact blk_set (blk_far HBY6.out (p := ⟨w2.heap.size, 0, none⟩) (by show w2.heap.size + 1 ≠ w2.heap.size; omega) _) 0 _
          · rw [hst2]
            exact Lx.lower (Lx.far (p := ⟨w2.heap.size + 1, 0, none⟩) (Lx.far (p := ⟨w2.heap.size, 0, none⟩) HO9.out (fun k hk => by have := Lax.base_le HO9.out k hk; show k ≠ w2.heap.size; omega) (.slice A8 o4.length c8)) (fun k hk => by have := Lax.base_le HO9.out k hk; show k ≠ w2.heap.size + 1; omega) (.int .i64 en)) (by omega)
      · go_simp
        refine hK _ _ ?_
        clear hK K
        refine wpAnyIn_take (i := 7) (v := ?_) rfl rfl (by kernel_rfl) (by kernel_rfl) (by kernel_rfl) (fun _ _ _ h => h) ⟨Or.inl ⟨by rfl, ?_⟩, fun _ => rfl⟩ ?_
        rotate_left
        · intro w; go_simp; try with_reducible rfl
        refine wpAnyIn_take (i := 8) (v := ?_) rfl rfl (by kernel_rfl) (by kernel_rfl) (by kernel_rfl) (fun _ _ _ h => h) ⟨Or.inl ⟨by rfl, ?_⟩, fun _ => rfl⟩ ?_
        rotate_left
        · intro w; go_simp; try with_reducible rfl
        refine wpAnyIn_ready (rs := [0]) (by kernel_rfl) (by simp) ?_
        refine AllReadyIn.cons rfl (fun K hK => ?_) AllReadyIn.nil
        go_simp
        refine hK _ _ ?_
        clear hK K
        refine wpAnyIn_ready (rs := [4]) (by kernel_rfl) (by simp) ?_
        refine AllReadyIn.cons rfl (fun K hK => ?_) AllReadyIn.nil
        go_simp
        refine ⟨trivial, ?_⟩
        ((with_reducible refine ((callsIn_wide.2 (PutUint_calls A3 out c3 (b.length : Int) _ ?s1 hc3 ?s2 ?s3 ?s4))).mono ?_))
        (case s1 => exact Kd.C_drew HC3.out)
        (case s2 => have h3 := HOL.out; omega)
        (case s3 => omega)
        (case s4 => have h3 := HBL.out; omega)
        rintro e w3 ⟨v3, rfl, ho3, hb3⟩
        obtain ⟨o2, ho2e⟩ : ∃ o2, out ++ uv (b.length : Int) = o2 := ⟨_, rfl⟩
        rw [ho2e] at ho3
        have HE2 := Aside0.mk ho2e
        clear ho2e
        obtain ⟨A6, c6, rfl, hc6, hC6⟩ := ho3.reads
        have HC6 := Aside0.mk hC6
        have HO6 := Aside0.mk ho3
        have HB6 := Aside0.mk hb3
        have hb46 := (hb3.block _ (blk_lt HB4'.out)).trans HB4'.out
        have hb56 := (hb3.block _ (blk_lt HB5'.out)).trans HB5'.out
        have hk46 := blk_cell hb46 0
        have hk56 := blk_cell hb56 0
        have HB46 := Aside0.mk hb46
        have HB56 := Aside0.mk hb56
        clear hC6 ho3 hb3 hb46 hb56
        refine hK _ _ ?_
        clear hK K
        refine wpAnyIn_ready (rs := [9]) (by kernel_rfl) (by simp) ?_
        refine AllReadyIn.cons rfl (fun K hK => ?_) AllReadyIn.nil
        go_simp
        refine ⟨trivial, ?_⟩
        ((with_reducible refine ((callsIn_wide.2 (PutUint_calls A6 o2 c6 q _ ?s1 hc6 ?s2 ?s3 ?s4))).mono ?_))
        (case s1 => exact HC6.out)
        (case s2 => have h1 := congrArg List.length HE2.out; have h2 := (uv_len (u := (b.length : Int)) (by have h3 := HBL.out; omega)).2; have h3 := HOL.out; rw [List.length_append] at h1; omega)
        (case s3 => exact hq0)
        (case s4 => exact HQ1.out)
        rintro e w4 ⟨v4, rfl, ho4, hb4⟩
        obtain ⟨o3, ho3e⟩ : ∃ o3, o2 ++ uv q = o3 := ⟨_, rfl⟩
        rw [ho3e] at ho4
        have HE3 := Aside0.mk ho3e
        clear ho3e
        obtain ⟨A7, c7, rfl, hc7, _⟩ := ho4.reads
        have HO7 := Aside0.mk ho4
        have HB7 := Aside0.mk hb4
        have hb47 := (hb4.block _ (blk_lt HB46.out)).trans HB46.out
        have hb57 := (hb4.block _ (blk_lt HB56.out)).trans HB56.out
        have hk47 := blk_cell hb47 0
        have hf47 := blk_frozen hb47 0
        have hk57 := blk_cell hb57 0
        have HB47 := Aside0.mk hb47
        have HB57 := Aside0.mk hb57
        clear ho4 hb4 hb47 hb57
        refine hK _ _ ?_
        clear hK K
        refine wpAnyIn_ready (rs := [10]) (by kernel_rfl) (by simp) ?_
        refine AllReadyIn.cons rfl (fun K hK => ?_) AllReadyIn.nil
        go_simp
        refine hK _ _ ?_
        clear hK K
        refine wpAnyIn_done (by kernel_rfl) ?_ _
        have hb43 : Below W.heap.size w1 w3 := (Below.drew (Below.refl _ w1)).trans (HB6.out.mono HB4.out.size)
        have hb44 : Below w1.heap.size w1 w4 := ((Below.drew (Below.refl _ w1)).trans HB6.out).trans (HB7.out.mono HB6.out.size)
        have hb4W : Below W.heap.size W w4 := HB4.out.trans (hb44.mono HB4.out.size)
        have hs3 := hb43.size
        have hs1 := HB4.out.size
        have hs4 := HB7.out.size
        have HO8 : Aside0 (Lx .u8 5 (w4.setCell ⟨w2.heap.size, 0, none⟩ (.slice A7 o3.length c7)) W.heap.size (.slice A7 o3.length c7) o3) := ⟨Lax.lower (Lax.far (p := ⟨w2.heap.size, 0, none⟩) HO7.out (fun k hk => by have := Lax.base_le HO7.out k hk; show k ≠ w2.heap.size; omega) (.slice A7 o3.length c7)) (by omega)⟩
        have HR8 : Aside0 ((Kd.int .u8).C (w4.setCell ⟨w2.heap.size, 0, none⟩ (.slice A7 o3.length c7)) A4 b.length b) := ⟨(Lx.reads' (Lax.far (p := ⟨w2.heap.size, 0, none⟩) (Lx.below HO4.out hb44) (fun k hk => by have := Lax.base_le HO4.out k hk; show k ≠ w2.heap.size; omega) (.slice A7 o3.length c7))).2.2⟩
        have HS4 : Aside0 (W.heap.size ≤ (w4.setCell ⟨w2.heap.size, 0, none⟩ (.slice A7 o3.length c7)).heap.size) := ⟨by simp [World.setCell]; omega⟩
        have HL3 : Aside0 (o3.length ≤ 140737400001000) := ⟨by
          have h1 := congrArg List.length HE2.out
          have h2 := congrArg List.length HE3.out
          have h3 := HOL.out
          have h5 := HBL.out
          have h6 := HQ1.out
          have h4 := uv_len (u := (b.length : Int)) (by omega)
          have h7 := uv_len (u := q) (by omega)
          rw [List.length_append] at h1 h2
          omega⟩
        have HB4W := Aside0.mk hb4W
        have hBB : Aside0 (w2.heap.size + 1 < W.heap.size) := ⟨by omega⟩
        clear hb43 hb44 hb4W hs3 hs1 hs4
        gi_wp2_with ((with_reducible refine gi_gate (xs := #[.tmp 39, .tmp 40]) rfl ?_); gi_at_builtin; refine Lx.append_row_in (w0 := w4.setCell ⟨w2.heap.size, 0, none⟩ (.slice A7 o3.length c7)) .u8 W.heap.size rfl (.tmp 39) (.tmp 40) 25 5 1 rfl Try.underlying25 info5 (by decide) (.slice A7 o3.length c7) o3 b A4 b.length c4 rfl rfl ?aO ?aR ?aB ?aS ?aL ?_; (case aO => exact HO8.out); (case aR => exact HR8.out); (case aB => exact Below.refl _ _); (case aS => exact HS4.out); (case aL => have h1 := HL3.out; have h2 := HBL.out; omega); intro v6 w6 ho6 hb6 _ _; obtain ⟨o4, ho4e⟩ : ∃ o4, o3 ++ b = o4 := ⟨_, rfl⟩; rw [ho4e] at ho6; have HE4 := Aside0.mk ho4e; clear ho4e; obtain ⟨A8, c8, rfl, _, _⟩ := ho6.reads; have hbx6 := (hb6.block _ (by have := hBB.out; show w2.heap.size < W.heap.size; omega)).trans (blk_set HB47.out 0 (.slice A7 o3.length c7)); have hby6 := (hb6.block _ hBB.out).trans (blk_far HB57.out (p := ⟨w2.heap.size, 0, none⟩) (by show w2.heap.size + 1 ≠ w2.heap.size; omega) (.slice A7 o3.length c7)); have hk6 := blk_cell hbx6 0; have hf6 := blk_frozen hbx6 0; have hk7 := blk_cell (blk_far hby6 (p := ⟨w2.heap.size, 0, none⟩) (by show w2.heap.size + 1 ≠ w2.heap.size; omega) (.slice A8 o4.length c8)) 0; have hf7 := blk_frozen (blk_far hby6 (p := ⟨w2.heap.size, 0, none⟩) (by show w2.heap.size + 1 ≠ w2.heap.size; omega) (.slice A8 o4.length c8)) 0; have HO9 := Aside0.mk ho6; have HB8 := Aside0.mk hb6; have HBX6 := Aside0.mk hbx6; have HBY6 := Aside0.mk hby6; clear ho6 hb6 hbx6 hby6)
        have hgr := two_stores (u' := .slice A8 o4.length c8) HB4W.out HB8.out
        have hgr2 := grownBy_setCell' (w6.setCell ⟨w2.heap.size, 0, none⟩ (.slice A8 o4.length c8)) (w2.heap.size + 1) (.int .i64 en)
        have hs6 := hgr.size
        have hs7 := hgr2.size
        have hBB2 := hBB.out
        have hst1 : (stOf l (pre ++ [x])).1 = en := by rw [HX.out]
        have hst2 : (stOf l (pre ++ [x])).2 = o4 := by rw [HX.out]; dsimp only; rw [HBE.out, HQE.out, HE2.out, HE3.out, HE4.out]
        refine ⟨(KeepsFrom.of_grownBy hgr (fun j e => by cases e; omega)).trans (KeepsFrom.of_grownBy hgr2 (fun j e => by cases e; omega)), (Keep2.grown hgr (by omega) (by omega) (fun e => by injection e; omega) (fun e => by injection e; omega)).trans (Keep2.grown hgr2 (by omega) (by omega) (fun e => by injection e; omega) (fun e => by injection e; omega)), ⟨_, blk_far (blk_set HBX6.out 0 _) (p := ⟨w2.heap.size + 1, 0, none⟩) (by show w2.heap.size ≠ w2.heap.size + 1; omega) _, ?_, ?_, (HBX.out.grown hgr (by omega) (fun k e => by cases e; omega)).grown hgr2 (by omega) (fun k e => by cases e; omega), by omega⟩⟩
        · rw [hst1]
          exact blk_set (blk_far HBY6.out (p := ⟨w2.heap.size, 0, none⟩) (by show w2.heap.size + 1 ≠ w2.heap.size; omega) _) 0 _
        · rw [hst2]
          exact Lx.lower (Lx.far (p := ⟨w2.heap.size + 1, 0, none⟩) (Lx.far (p := ⟨w2.heap.size, 0, none⟩) HO9.out (fun k hk => by have := Lax.base_le HO9.out k hk; show k ≠ w2.heap.size; omega) (.slice A8 o4.length c8)) (fun k hk => by have := Lax.base_le HO9.out k hk; show k ≠ w2.heap.size + 1; omega) (.int .i64 en)) (by omega)
  case done =>
    rintro D ys W hD rfl ⟨v, hv, hla, hvx, hB, hBs3⟩ hK
    obtain ⟨o, ho⟩ : ∃ o, (stOf l (List.finRange (cuts 8 l.length))).2 = o := ⟨_, rfl⟩
    rw [ho] at hvx
    have HOo := Aside0.mk ho
    obtain ⟨A9, c9, rfl, hc9, hC9⟩ := hvx.reads
    have HC9 := Aside0.mk hC9
    have HVX := Aside0.mk hvx
    have hcw := blk_cell hv 0
    have hfw := blk_frozen hv 0
    clear ho hC9 hvx hst
    gi_wp2_with (refine ⟨trivial, ?_⟩; gi_at_call 45; refine (callsIn_wide.2 (Clip_calls A9 o.length c9 _ hc9 (Kd.C_max HC9.out))).mono ?_; rintro e w1 ⟨rfl, rfl⟩)
    have hgD := grownBy_putObj' W D (.deferred none)
    have hrD : ∀ r, (some D : Option Nat) = some r → ∃ o : Obj, W.heap[r]? = some o ∧ o.isCells = false := fun r e => by cases e; exact ⟨_, hK, rfl⟩
    have hfin : Lx .u8 5 (W.putObj D (.deferred none)) w.heap.size (.slice A9 o.length o.length) (formOf l) := by
      have h1 : (stOf l (List.finRange (cuts 8 l.length))).2 = formOf l := stOf_all l
      rw [← h1, HOo.out]
      exact Lax.clip (Lx.own HVX.out hgD hrD)
    refine ⟨by simp, .inl ⟨_, _, rfl, run_takeDeferred hK, ?_⟩⟩
    exact ⟨_, results_tmp2 rfl _ _ _, _, rfl, hfin, hB.grown hgD hB.size (fun k e => by cases e; omega)⟩
  case stop =>
    rintro D c' pre W _ _ h _
    exact h.elim
end Go.Proofs.Ytimlgpfcgklddaa.P
namespace Go.Proofs.Ytimlgpfcgklddaa
theorem sortedTo_le (l : List Int) : ∀ i, sortedTo l i = true → ∀ a b : Nat, a ≤ b → b ≤ i → l.getD a 0 ≤ l.getD b 0
  | 0, _, a, b, hab, hb => by have : a = b := by omega
                              rw [this]; exact Int.le_refl _
  | i + 1, h, a, b, hab, hb => by
    rw [sortedTo_succ, Bool.and_eq_true, decide_eq_true_iff] at h
    rcases Nat.lt_or_ge b (i + 1) with hlt | hge
    · exact sortedTo_le l i h.2 a b hab (by omega)
    · have hbe : b = i + 1 := by omega
      rcases Nat.lt_or_ge a (i + 1) with ha | ha
      · have := sortedTo_le l i h.2 a i (by omega) (Nat.le_refl _)
        rw [hbe]
        omega
      · have : a = b := by omega
        rw [this]; exact Int.le_refl _
theorem sortedB_mem {l : List Int} (h : sortedB l = true) {x : Int} (hx : x ∈ l) : l.getD 0 0 ≤ x ∧ x ≤ l.getD (l.length - 1) 0 := by
  obtain ⟨i, hi, rfl⟩ := List.mem_iff_getElem.1 hx
  have e : l.getD i 0 = l[i] := by simp [hi]
  rw [← e]
  exact ⟨sortedTo_le l _ h 0 i (by omega) (by omega), sortedTo_le l _ h i (l.length - 1) (by omega) (Nat.le_refl _)⟩
/-- What is known of a post in right posts. -/
structure PostOk (p : P.S58) : Prop where
  doc : 0 ≤ p.f0 ∧ p.f0 < 16384
  pos : 1 ≤ p.f1.length ∧ ∀ x ∈ p.f1, 0 ≤ x ∧ x ≤ 1048576
theorem postB_ok {last all : Int} {p : P.S58} (h : postB last all p = true) (hl : -1 ≤ last) : PostOk p ∧ last < p.f0 ∧ all + p.f1.length ≤ 1048576 := by
  unfold postB at h
  simp only [Bool.and_eq_true, decide_eq_true_iff] at h
  obtain ⟨⟨⟨⟨⟨⟨h1, h2⟩, h3⟩, h4⟩, h5⟩, h6⟩, h7⟩ := h
  refine ⟨⟨by omega, h3, fun x hx => ?_⟩, h1, h4⟩
  have := sortedB_mem h5 hx
  omega
theorem rightB_ok : ∀ (l : List P.S58) (last all : Int), rightB last all l = true → -1 ≤ last → 0 ≤ all → (l.length : Int) + (if l = [] then 0 else last) ≤ 16383 ∧ (∀ p ∈ l, PostOk p) ∧ (if l = [] then 0 else all) + ((l.map fun p => p.f1.length).sum : Nat) ≤ 1048576
  | [], last, all, _, _, _ => by simp
  | p :: r, last, all, h, h0, h1 => by
    rw [rightB, Bool.and_eq_true] at h
    obtain ⟨hp, hlt, htot⟩ := postB_ok h.1 h0
    have ih := rightB_ok r p.f0 (all + p.f1.length) h.2 (by have := hp.doc.1; omega) (by omega)
    have hd := hp.doc
    refine ⟨?_, ?_, ?_⟩
    · rw [if_neg (by simp)]
      have := ih.1
      rw [List.length_cons]
      split at this
      · rename_i hr; subst hr; simp; omega
      · omega
    · intro q hq
      rcases List.mem_cons.1 hq with rfl | hq
      · exact hp
      · exact ih.2.1 q hq
    · rw [if_neg (by simp), List.map_cons, List.sum_cons]
      have := ih.2.2
      split at this
      · rename_i hr; subst hr; simp; omega
      · omega
theorem rightB_len {l : List P.S58} (h : rightB (-1) 0 l = true) : l.length ≤ 16384 := by
  have := (rightB_ok l (-1) 0 h (by omega) (by omega)).1
  split at this
  · rename_i hr; subst hr; simp
  · omega
theorem rightB_sum {l : List P.S58} (h : rightB (-1) 0 l = true) : (l.map fun p => p.f1.length).sum ≤ 1048576 := by
  have := (rightB_ok l (-1) 0 h (by omega) (by omega)).2.2
  split at this
  · rename_i hr; subst hr; simp
  · omega
theorem sublist_sum {α : Type} (f : α → Nat) {a b : List α} (h : List.Sublist a b) : (a.map f).sum ≤ (b.map f).sum := by
  induction h with
  | slnil => exact Nat.le_refl _
  | cons x _ ih => rw [List.map_cons, List.sum_cons]; omega
  | cons_cons x _ ih => rw [List.map_cons, List.map_cons, List.sum_cons, List.sum_cons]; omega
theorem blockOk_chunk {l : List P.S58} (h : rightB (-1) 0 l = true) (j : Nat) (last : Int) (h0 : -1 ≤ last) (h1 : last < 16384) : BlockOk (chunkOf 8 l j) last := by
  have hs : List.Sublist (chunkOf 8 l j) l := (List.take_sublist _ _).trans (List.drop_sublist _ _)
  have hok := rightB_ok l (-1) 0 h (by omega) (by omega)
  refine ⟨Nat.le_trans hs.length_le (rightB_len h), fun p hp => (hok.2.1 p (hs.subset hp)).doc, h0, h1, fun p hp => (hok.2.1 p (hs.subset hp)).pos, Nat.le_trans (sublist_sum _ hs) (rightB_sum h)⟩
theorem rightB_pos {l : List P.S58} (h : rightB (-1) 0 l = true) : ∀ p ∈ l, p.f1.length ≤ 1048576 := fun p hp => Nat.le_trans (P.sum_mem_le (List.mem_map.2 ⟨p, hp, rfl⟩)) (rightB_sum h)
end Go.Proofs.Ytimlgpfcgklddaa
namespace Go.Proofs.Ytimlgpfcgklddaa.P
open Go.RowKit Go.Shelf Go.Proofs.YtimlgpfcgklddaaW.PrintWords Go.Proofs.YtimlgpfcgklddaaW.PrintLast Go.Proofs.YtimlgpfcgklddaaW.PrintMore
set_option linter.unusedVariables false
set_option maxRecDepth 100000 in
set_option maxHeartbeats 4000000 in
theorem Build_no (A : Option Addr) (l : List S58) (c : Nat) (w : World) (h : Kd.C k58 w A l.length l) (hc : l.length ≤ c) (ok : rightB (-1) 0 l = false) (M : Nat) (hl : ∀ p ∈ l, p.f1.length ≤ M) (hM : M ≤ 140737488355328) (hn : l.length ≤ 140737488355328) :
    Calls Try.prog 10 #[.slice A l.length c] w fun e w' => e = .returned (.tuple #[.slice none 0 0, .int .i64 1]) ∧ Below w.heap.size w w' := by
  have H := Aside0.mk h
  have HR := Aside0.mk hl
  have HOK := Aside0.mk ok
  clear h hl ok
  refine (callsIn_wide (n := 4)).1 ?_
  refine callsIn_of_wp_marks Try.func10 rfl trivial ?_ rfl
  simp only [Try.ntmps10, List.size_toArray, List.length_cons, List.length_nil, Nat.reduceAdd, Nat.reduceSub, Array.replicate_succ, Array.replicate_zero, List.push_toArray, List.append_toArray, List.nil_append, List.cons_append]
  gi_wp2_with (refine ⟨trivial, ?_⟩; gi_at_call 41; refine (callsIn_wide.2 (right_calls A c l _ H.out hc M HR.out hM (by omega))).mono ?_; rintro e w1 ⟨rfl, hb1⟩; rw [HOK.out]; have HB1 := Aside0.mk hb1; clear hb1)
  exact ⟨_, results_tmp2 rfl _ _ _, rfl, HB1.out⟩
theorem Build_calls (A : Option Addr) (l : List S58) (c : Nat) (w : World) (h : Kd.C k58 w A l.length l) (hc : l.length ≤ c) (M : Nat) (hl : ∀ p ∈ l, p.f1.length ≤ M) (hM : M ≤ 140737488355328) (hn : l.length ≤ 140737488355328) :
    Calls Try.prog 10 #[.slice A l.length c] w fun e w' => ∃ v, e = .returned (.tuple #[v, .int .i64 (if rightB (-1) 0 l = true then 0 else 1)]) ∧ Lx .u8 5 w' w.heap.size v (if rightB (-1) 0 l = true then formOf l else []) ∧ (rightB (-1) 0 l = false → v = .slice none 0 0) ∧ Below w.heap.size w w' := by
  cases hr : rightB (-1) 0 l with
  | true =>
    refine (Build_yes A l c w h hc hr M hl hM (rightB_len hr) (fun j last h0 h1 => blockOk_chunk hr j last h0 h1)).mono ?_
    rintro e w' ⟨v, rfl, h1, h2⟩
    exact ⟨v, rfl, h1, (fun e => absurd e (by decide)), h2⟩
  | false =>
    refine (Build_no A l c w h hc hr M hl hM hn).mono ?_
    rintro e w' ⟨rfl, h1⟩
    exact ⟨_, rfl, Lx.nil _ _ _ _, fun _ => rfl, h1⟩
end Go.Proofs.Ytimlgpfcgklddaa.P
