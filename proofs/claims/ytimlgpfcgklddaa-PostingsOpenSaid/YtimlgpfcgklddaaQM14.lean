/-
Texts of this seat, laid together: M14, P6.
-/
import Derived.Test.YtimlgpfcgklddaaQM13
import Derived.Test.YtimlgpfcgklddaaQP5
import Derived.Test.YtimlgpfcgklddaaQP2
namespace Go.Proofs.Ytimlgpfcgklddaa
open Go.RowKit
set_option linter.unusedVariables false
theorem blks_len (L : List P.S58) : (blksOf L).length = (L.length + 7) / 8 := by unfold blksOf; rw [List.length_map, List.length_range]
theorem chunk_len (L : List P.S58) (j : Nat) : (chunkOf 8 L j).length = min 8 (L.length - 8 * j) := by unfold chunkOf; rw [List.length_take, List.length_drop, Nat.mul_comm j]
theorem drop_chunk (L : List P.S58) (j : Nat) : L.drop (8 * j) = chunkOf 8 L j ++ L.drop (8 * (j + 1)) := by
  unfold chunkOf
  rw [Nat.mul_comm j, show 8 * (j + 1) = 8 * j + 8 from by omega, ← List.drop_drop, List.take_append_drop]
theorem blk_posts (L : List P.S58) (hR : rightB (-1) 0 L = true) (j : Nat) : postsF (blkAt L j).b (blkAt L j).ahead (blkAt L j).last (blkAt L j).n = (chunkOf 8 L j, true) := by
  have hb := blocks_bounds L hR j
  have ok := blockOk_chunk hR j (blocksOf L (List.range j)).1 hb.1 (by omega)
  obtain ⟨all', hall0, hsuf⟩ := rightB_append (L.take (8 * j)) (chunkOf 8 L j ++ L.drop (8 * (j + 1))) (-1) 0 (by rw [← drop_chunk, List.take_append_drop]; exact hR) (by omega)
  rw [← blocks_last] at hsuf
  have h := postsF_back _ _ _ _ (blocksOf L (List.range (j + 1))).1 ok hsuf
  have e : lastOf (blocksOf L (List.range j)).1 ((chunkOf 8 L j).map fun p => p.f0) = (blocksOf L (List.range (j + 1))).1 := by rw [blocks_succ]; rfl
  rw [e] at h
  unfold blkAt
  dsimp only
  rw [h]
  simp
theorem blk_ok (L : List P.S58) (hR : rightB (-1) 0 L = true) : ∀ p ∈ blksOf L, BlkOk p := by
  intro p hp
  unfold blksOf at hp
  obtain ⟨j, hj, rfl⟩ := List.mem_map.1 hp
  rw [List.mem_range] at hj
  have hb := blocks_bounds L hR j
  have ok := blockOk_chunk hR j (blocksOf L (List.range j)).1 hb.1 (by omega)
  have hl := P.rowsOf_len ok
  have hcl := chunk_len L j
  refine ⟨by unfold blkAt; dsimp only; omega, ?_, by unfold blkAt; dsimp only; omega, by unfold blkAt; dsimp only; omega, by unfold blkAt; dsimp only; omega, by rw [blk_posts L hR j]⟩
  have hr := block_ranges ok
  intro x hx
  have hx : x ∈ rowsOf (blocksOf L (List.range j)).1 (chunkOf 8 L j) := hx
  have key : ∀ (l : List Int), (∀ x ∈ l, -9223372036854775808 ≤ x ∧ x ≤ 9223372036854775807) → ∀ x ∈ packPut l, 0 ≤ x ∧ x < 256 := by
    intro l hl x hx
    unfold packPut at hx
    obtain ⟨t, _, hx⟩ := List.mem_flatMap.1 hx
    have hcr : ∀ x ∈ chunkOf 128 l t, -9223372036854775808 ≤ x ∧ x ≤ 9223372036854775807 := fun x hx => hl x (List.mem_of_mem_drop (List.mem_of_mem_take hx))
    have hmr : -9223372036854775808 ≤ minI (chunkOf 128 l t) ∧ minI (chunkOf 128 l t) ≤ 9223372036854775807 := by
      by_cases hn : chunkOf 128 l t = []
      · rw [hn]; decide
      · exact hcr _ (minI_mem _ hn)
    have hz := zz_range hmr.1 hmr.2
    unfold packOne at hx
    rcases List.mem_append.1 hx with hx | hx
    · rcases List.mem_append.1 hx with hx | hx
      · exact uv_bytes _ x hx
      · rw [List.mem_singleton] at hx
        subst hx
        have := widthOf_le (above (chunkOf 128 l t))
        omega
    · unfold leB at hx
      obtain ⟨i, _, rfl⟩ := List.mem_map.1 hx
      omega
  unfold rowsOf at hx
  rcases List.mem_append.1 hx with hx | hx
  · rcases List.mem_append.1 hx with hx | hx
    · exact key _ hr.1.2 x hx
    · exact key _ hr.2.1.2 x hx
  · exact key _ hr.2.2.2 x hx
def postsAll (bl : List Blk) : List P.S58 := bl.flatMap fun p => (postsF p.b p.ahead p.last p.n).1
theorem chunks_all (L : List P.S58) : ∀ j, j ≤ (L.length + 7) / 8 → ((List.range j).map (chunkOf 8 L)).flatten = L.take (8 * j)
  | 0, _ => rfl
  | j + 1, h => by
    rw [List.range_succ, List.map_append, List.flatten_append, chunks_all L j (by omega)]
    simp only [List.map_cons, List.map_nil, List.flatten_cons, List.flatten_nil, List.append_nil]
    unfold chunkOf
    rw [Nat.mul_comm j, show 8 * (j + 1) = 8 * j + 8 from by omega, List.take_add]
theorem posts_blks (L : List P.S58) (hR : rightB (-1) 0 L = true) : postsAll (blksOf L) = L := by
  unfold postsAll blksOf
  rw [List.flatMap_def, List.map_map]
  have e : ((fun p : Blk => (postsF p.b p.ahead p.last p.n).1) ∘ blkAt L) = chunkOf 8 L := by
    funext j
    simp only [Function.comp]
    rw [blk_posts L hR j]
  rw [e, chunks_all L _ (Nat.le_refl _), List.take_of_length_le (by omega)]
theorem postsAll_len (bl : List Blk) (h : ∀ p ∈ bl, p.n ≤ 1048576) : (postsAll bl).length ≤ bl.length * 1048576 := by
  unfold postsAll
  induction bl with
  | nil => simp
  | cons p r ih =>
    rw [List.flatMap_cons, List.length_append, List.length_cons]
    have h1 := postsF_facts (bs := p.b) (ahead := p.ahead) (last := p.last) (n := p.n)
    have h2 := h p (List.mem_cons_self ..)
    have h3 := ih fun q hq => h q (List.mem_cons_of_mem _ hq)
    have h4 := h1.1
    omega
end Go.Proofs.Ytimlgpfcgklddaa
namespace Go.Proofs.Ytimlgpfcgklddaa.P
open Go.RowKit Go.Shelf Go.Proofs.YtimlgpfcgklddaaW.PrintWords Go.Proofs.YtimlgpfcgklddaaW.PrintLast Go.Proofs.YtimlgpfcgklddaaW.PrintMore
set_option linter.unusedVariables false
set_option linter.unusedSimpArgs false
theorem Len_calls (B : Nat) (vb : Value) (n : Int) (w : World) (h : w.heap[B]? = some (.cells #[vb, .int .i64 n] 93 (0, 0))) :
    Calls Try.prog 35 #[.pointer (some ⟨B, 0, none⟩)] w fun e w' => e = .returned (.int .i64 n) ∧ w' = w := by
  have hc0 := blk_cell h 0
  have hc1 := blk_cell h 1
  clear h
  go_enter Try.func35, Try.ntmps35
  go_wp2
  go_ret
  exact ⟨rfl, rfl⟩
theorem LenNil_calls (w : World) : Calls Try.prog 35 #[.pointer none] w fun e w' => e = .returned (.int .i64 0) ∧ w' = w := by
  go_enter Try.func35, Try.ntmps35
  go_wp2
  go_ret
  exact ⟨rfl, rfl⟩
theorem PostsNil_calls (w : World) : Calls Try.prog 37 #[.pointer none] w fun e w' => e = .returned (.slice none 0 0) ∧ w' = w := by
  go_enter Try.func37, Try.ntmps37
  go_wp2
  go_ret
  exact ⟨rfl, rfl⟩
theorem ClipP_calls (A : Option Addr) (n c : Nat) (w : World) (hn : n ≤ c) (hm : n ≤ 9223372036854775807) :
    Calls Try.prog 71 #[.slice A n c] w fun e w' => e = .returned (.slice A n n) ∧ w = w' := by
  go_enter Try.func71, Try.ntmps71
  go_wp2
  go_ret
  exact ⟨rfl, rfl⟩
set_option maxRecDepth 100000 in
set_option maxHeartbeats 2000000 in
theorem Posts_calls (L base : Nat) (bl : List Blk) (w : World) (h : Lst w L base bl) (hbs : base ≤ w.heap.size) :
    Calls Try.prog 37 #[.pointer (some ⟨L, 0, none⟩)] w fun e w' => ∃ v, e = .returned v ∧ PxA w'.heap.size w' w.heap.size v (postsAll bl) ∧ Below w.heap.size w w' := by
  have HL := Aside0.mk h
  obtain ⟨vb, nn, h3, h4⟩ := h.v
  obtain ⟨Ab, cb, rfl, hcb⟩ := Bx.slice h4
  have hl0 := blk_cell h3 0
  have hbl := h.len
  have H4 := Aside0.mk h4
  clear h h3 h4
  go_enter Try.func37, Try.ntmps37
  go_wp2
  go_loopg [3, 15] bl.length (fun kq v3 v15 w' => ∃ i : Nat, v15 = .int .i64 (i : Int) ∧ Aside0 (i + kq = bl.length) ∧ Aside0 (PxA w'.heap.size w' w.heap.size v3 (postsAll (bl.take i))) ∧ Aside0 (Below w.heap.size w w'))
  case atStart => exact ⟨0, rfl, ⟨by omega⟩, ⟨PxA.nil _ _ _⟩, ⟨Below.refl _ _⟩⟩
  case round =>
    clear hl0
    obtain ⟨i, rfl, hi, HX, HB⟩ := hrel
    by_cases hil : i < bl.length
    · obtain ⟨ad, A1, c1, p, rfl, hp, hx0, hx1, hx2, hx3, hlp, hCp⟩ := Bx.at_ (H4.out.below HB.out) i hil
      have hpm := List.mem_of_getElem? hp
      have hpk := HL.out.ok p hpm
      have htk : bl.take (i + 1) = bl.take i ++ [p] := by
        rw [List.take_add_one, hp]
        rfl
      have hpa : postsAll (bl.take (i + 1)) = postsAll (bl.take i) ++ (postsF p.b p.ahead p.last p.n).1 := by
        rw [htk]
        unfold postsAll
        rw [List.flatMap_append, List.flatMap_cons, List.flatMap_nil, List.append_nil]
      have hol := postsAll_len (bl.take i) (fun q hq => (HL.out.ok q (List.mem_of_mem_take hq)).n2)
      rw [List.length_take] at hol
      obtain ⟨pb, pa, pl, pn⟩ := p
      have hpf := postsF_facts (bs := pb) (ahead := pa) (last := pl) (n := pn)
      dsimp only at hx0 hx1 hx2 hx3 hlp hCp hpa
      have hn2 := hpk.n2
      dsimp only at hn2
      obtain ⟨R, hR⟩ : ∃ R, postsF pb pa pl pn = R := ⟨_, rfl⟩
      rw [hR] at hpf hpa
      have HPo : Aside0 (∀ W, Below wr.heap.size wr W → Calls Try.prog 53 #[.agg #[.slice A1 pb.length c1, .int .i64 pa, .int .i64 pl, .int .i64 pn]] W fun e w' => ∃ v, e = .returned (.tuple #[v, .bool R.2]) ∧ PxA w'.heap.size w' W.heap.size v R.1 ∧ Below W.heap.size W w') := ⟨fun W hW => by
        have := postsA_calls A1 pb c1 pn pa pl W (Kd.C_below hCp hW) hlp hpk.len hpk.range hpk.n2 hpk.n1 hpk.ahead
        rw [hR] at this
        exact this⟩
      obtain ⟨out, hout⟩ : ∃ out, postsAll (bl.take i) = out := ⟨_, rfl⟩
      rw [hout] at HX hol hpa
      have HPA := Aside0.mk hpa
      have HOL : Aside0 (out.length ≤ 17179869184) := ⟨by omega⟩
      have HPF : Aside0 (R.1.length ≤ 1048576) := ⟨by have := hpf.1; omega⟩
      clear hpm hpk htk hpa hol hpf hR hout hp hCp
      go_wp2_with (first
        | (go_at_call 53; ((with_reducible refine (HPo.out _ (below_alloc (Below.refl _ _) _)).mono ?_)); rintro e w5 ⟨v5, rfl, hp5, hb5⟩; obtain ⟨A5, c5, rfl, _, _⟩ := hp5.px.reads; have HP5 := Aside0.mk hp5; have HB5 := Aside0.mk ((below_alloc (Below.refl wr.heap.size wr) (.cells #[.slice A1 pb.length c1, .int .i64 pa, .int .i64 pl, .int .i64 pn] 96)).trans (hb5.mono (by simp))); clear hp5 hb5)
        | ((with_reducible refine gate_builtin (b := .append) (xs := #[.tmp 24, .tmp 25]) rfl ?_); at_builtin; refine PxA.append_row (w0 := w) w.heap.size (wr.alloc (.cells #[.slice A1 pb.length c1, .int .i64 pa, .int .i64 pl, .int .i64 pn] 96)).heap.size wr.heap.size w5.heap.size rfl (.tmp 24) (.tmp 25) 22 rfl Try.underlying22 info58 u3 (.slice A5 R.1.length c5) out R.1 rfl rfl ?aO ?aR ?aN ?aM ?aP ?aB ?aS ?aL ?_; (case aO => exact HX.out.below HB5.out); (case aR => exact HP5.out); (case aN => simp); (case aM => exact HB5.out.size); (case aP => have := HB.out.size; simp; omega); (case aB => exact HB.out.trans (HB5.out.mono HB.out.size)); (case aS => exact Nat.le_trans HB.out.size HB5.out.size); (case aL => have h1 := HOL.out; have h2 := HPF.out; omega); intro v9 w9 ho9 hb9 hg9; have HO9 := Aside0.mk ho9.bound; have HB9 := Aside0.mk hb9; clear ho9 hb9 hg9))
      go_roundg (bl.length - (i + 1))
      case measure => have := hi.out; omega
      case rel => exact ⟨i + 1, by first | rfl | (simp; done) | (simp; unfold wrap64; omega), ⟨by have := hi.out; omega⟩, ⟨by rw [HPA.out]; exact HO9.out⟩, HB9⟩
    · have hie : i = bl.length := by have := hi.out; omega
      have htk : bl.take i = bl := by rw [hie, List.take_length]
      rw [htk] at HX
      obtain ⟨A5, c5, rfl, hc5, hC5⟩ := HX.out.px.reads
      have hm5 := Kd.C_max hC5
      clear htk hie hC5
      go_wp2_with (go_at_call 71; ((with_reducible refine (ClipP_calls A5 _ c5 _ hc5 hm5).mono ?_)); rintro e w6 ⟨rfl, rfl⟩)
      go_ret
      exact ⟨_, rfl, HX.out.clip, HB.out⟩
end Go.Proofs.Ytimlgpfcgklddaa.P
