/-
Texts of this seat, laid together: M14, M15.
-/
import Derived.Test.YtimlgpfcgklddaaXM13
import Derived.Test.YtimlgpfcgklddaaXD8
/-
A walk over the list of right posts stands where the plain walk stands.
-/
namespace Go.Proofs.Ytimlgpfcgklddaa
open Go.RowKit
set_option linter.unusedVariables false
theorem rightB_inc : ∀ (l : List P.S58) (la all : Int), rightB la all l = true → (∀ p ∈ l, la < p.f0) ∧ l.Pairwise fun a b => a.f0 < b.f0
  | [], _, _, _ => ⟨fun p hp => by (cases hp), List.Pairwise.nil⟩
  | p :: r, la, all, h => by
    rw [rightB, Bool.and_eq_true] at h
    have h1 := (postB_chk h.1).2.1
    have ih := rightB_inc r p.f0 _ h.2
    refine ⟨fun q hq => ?_, List.Pairwise.cons (fun q hq => ih.1 q hq) ih.2⟩
    rcases List.mem_cons.1 hq with rfl | hq
    · exact h1
    · have := ih.1 q hq; omega
theorem blks_len (L : List P.S58) : (blksOf L).length = (L.length + 7) / 8 := by unfold blksOf; rw [List.length_map, List.length_range]
theorem blks_get (L : List P.S58) (j : Nat) (h : j < (L.length + 7) / 8) : (blksOf L)[j]? = some (blkAt L j) := by
  unfold blksOf
  rw [List.getElem?_map, List.getElem?_range h]
  rfl
theorem chunk_len (L : List P.S58) (j : Nat) : (chunkOf 8 L j).length = min 8 (L.length - 8 * j) := by unfold chunkOf; rw [List.length_take, List.length_drop, Nat.mul_comm j]
theorem drop_chunk (L : List P.S58) (j : Nat) : L.drop (8 * j) = chunkOf 8 L j ++ L.drop (8 * (j + 1)) := by
  unfold chunkOf
  rw [Nat.mul_comm j, show 8 * (j + 1) = 8 * j + 8 from by omega, ← List.drop_drop, List.take_append_drop]
theorem blk_posts (L : List P.S58) (hR : rightB (-1) 0 L = true) (j : Nat) : postsF (blkAt L j).b (blkAt L j).ahead (blkAt L j).last (blkAt L j).n = (chunkOf 8 L j, true) := by
  have hb := blocks_bounds L hR j
  have ok := blockOk_chunk hR j (blocksOf L (List.range j)).1 hb.1 (by omega)
  obtain ⟨all', hall0, hsuf⟩ := rightB_append (L.take (8 * j)) (chunkOf 8 L j ++ L.drop (8 * (j + 1))) (-1) 0 (by rw [← drop_chunk, List.take_append_drop]; exact hR) (by omega)
  rw [← blocks_last] at hsuf
  have h := postsF_back _ _ _ _ (blocksOf L (List.range (j + 1))).1 ok hsuf
  have e : lastOf (blocksOf L (List.range j)).1 ((chunkOf 8 L j).map fun p => p.f0) = (blocksOf L (List.range (j + 1))).1 := by rw [blocks_succ]; rfl
  rw [e] at h
  unfold blkAt
  dsimp only
  rw [h]
  simp
theorem blk_ok (L : List P.S58) (hR : rightB (-1) 0 L = true) : ∀ p ∈ blksOf L, BlkOk p := by
  intro p hp
  unfold blksOf at hp
  obtain ⟨j, hj, rfl⟩ := List.mem_map.1 hp
  rw [List.mem_range] at hj
  have hb := blocks_bounds L hR j
  have ok := blockOk_chunk hR j (blocksOf L (List.range j)).1 hb.1 (by omega)
  have hl := P.rowsOf_len ok
  have hcl := chunk_len L j
  refine ⟨by unfold blkAt; dsimp only; omega, ?_, by unfold blkAt; dsimp only; omega, by unfold blkAt; dsimp only; omega, by unfold blkAt; dsimp only; omega, by rw [blk_posts L hR j]⟩
  have hr := block_ranges ok
  intro x hx
  have hx : x ∈ rowsOf (blocksOf L (List.range j)).1 (chunkOf 8 L j) := hx
  have key : ∀ (l : List Int), (∀ x ∈ l, -9223372036854775808 ≤ x ∧ x ≤ 9223372036854775807) → ∀ x ∈ packPut l, 0 ≤ x ∧ x < 256 := by
    intro l hl x hx
    unfold packPut at hx
    obtain ⟨t, _, hx⟩ := List.mem_flatMap.1 hx
    have hcr : ∀ x ∈ chunkOf 128 l t, -9223372036854775808 ≤ x ∧ x ≤ 9223372036854775807 := fun x hx => hl x (List.mem_of_mem_drop (List.mem_of_mem_take hx))
    have hmr : -9223372036854775808 ≤ minI (chunkOf 128 l t) ∧ minI (chunkOf 128 l t) ≤ 9223372036854775807 := by
      by_cases hn : chunkOf 128 l t = []
      · rw [hn]; decide
      · exact hcr _ (minI_mem _ hn)
    have hz := zz_range hmr.1 hmr.2
    unfold packOne at hx
    rcases List.mem_append.1 hx with hx | hx
    · rcases List.mem_append.1 hx with hx | hx
      · exact uv_bytes _ x hx
      · rw [List.mem_singleton] at hx
        subst hx
        have := widthOf_le (above (chunkOf 128 l t))
        omega
    · unfold leB at hx
      obtain ⟨i, _, rfl⟩ := List.mem_map.1 hx
      omega
  unfold rowsOf at hx
  rcases List.mem_append.1 hx with hx | hx
  · rcases List.mem_append.1 hx with hx | hx
    · exact key _ hr.1.2 x hx
    · exact key _ hr.2.1.2 x hx
  · exact key _ hr.2.2.2 x hx
/-- Where a walk stands at place g (-1: ahead of all; the length: behind all). -/
def simSt (L : List P.S58) (g : Int) : ISt :=
  if g < 0 then ⟨[], -1, 0⟩ else if g < L.length then ⟨chunkOf 8 L (g.toNat / 8), ((g.toNat % 8 : Nat) : Int), g.toNat / 8 + 1⟩ else ⟨[], 0, 1073741824⟩
theorem sim_start (L : List P.S58) : simSt L (-1) = ⟨[], -1, 0⟩ := rfl
theorem sim_at (L : List P.S58) (i : Nat) (h : i < L.length) : simSt L (i : Int) = ⟨chunkOf 8 L (i / 8), ((i % 8 : Nat) : Int), i / 8 + 1⟩ := by
  unfold simSt
  rw [if_neg (by omega), if_pos (by omega), Int.toNat_natCast]
theorem sim_end (L : List P.S58) : simSt L (L.length : Int) = ⟨[], 0, 1073741824⟩ := by
  unfold simSt
  rw [if_neg (by omega), if_neg (by omega)]
theorem sim_here (L : List P.S58) (i : Nat) (h : i < L.length) : (simSt L (i : Int)).here := by
  rw [sim_at L i h]
  unfold ISt.here
  dsimp only
  rw [chunk_len]
  omega
theorem sim_nothere (L : List P.S58) (g : Int) (h : g < 0 ∨ (L.length : Int) ≤ g) : ¬ (simSt L g).here := by
  unfold simSt ISt.here
  split
  · simp
  · rw [if_neg (by omega)]; simp
theorem chunk_getD (L : List P.S58) (j t : Nat) (h : t < 8) : (chunkOf 8 L j).getD t P.z58 = L.getD (8 * j + t) P.z58 := by
  unfold chunkOf
  rw [List.getD_eq_getElem?_getD, List.getElem?_take, if_pos h, List.getElem?_drop, List.getD_eq_getElem?_getD, Nat.mul_comm j]
theorem sim_post (L : List P.S58) (i : Nat) (h : i < L.length) : (simSt L (i : Int)).post = L.getD i P.z58 := by
  unfold ISt.post
  rw [sim_at L i h]
  dsimp only
  rw [Int.toNat_natCast, chunk_getD L _ _ (by omega), show 8 * (i / 8) + i % 8 = i from by omega]
theorem load_at (L : List P.S58) (hR : rightB (-1) 0 L = true) (ps : List P.S58) (a : Int) (j : Nat) (h : j < (L.length + 7) / 8) : loadF (blksOf L) ⟨ps, a, j⟩ = (true, ⟨chunkOf 8 L j, 0, j + 1⟩) := by
  unfold loadF
  dsimp only
  rw [blks_get L j h]
  dsimp only
  rw [blk_posts L hR j]
theorem load_end (L : List P.S58) (ps : List P.S58) (a : Int) (j : Nat) (h : (L.length + 7) / 8 ≤ j) : loadF (blksOf L) ⟨ps, a, j⟩ = (false, ⟨[], 0, 1073741824⟩) := by
  unfold loadF
  dsimp only
  rw [List.getElem?_eq_none (by rw [blks_len]; exact h)]
def docAt (L : List P.S58) (g : Int) : Int := if g < 0 then -1 else if g < L.length then (L.getD g.toNat P.z58).f0 else 16384
def posAt (L : List P.S58) (g : Int) : List Int := if g < 0 then [] else if g < L.length then (L.getD g.toNat P.z58).f1 else []
theorem sim_doc (L : List P.S58) (g : Int) (h0 : -1 ≤ g) (h1 : g ≤ L.length) : docF (simSt L g) = docAt L g := by
  unfold docF docAt
  by_cases hn : g < 0
  · rw [if_neg (sim_nothere L g (.inl hn)), if_pos hn]
    unfold simSt
    rw [if_pos hn]
    rfl
  · rw [if_neg hn]
    obtain ⟨i, rfl⟩ := Int.eq_ofNat_of_zero_le (show 0 ≤ g by omega)
    by_cases hl : (i : Int) < L.length
    · rw [if_pos (sim_here L i (by omega)), if_pos hl, sim_post L i (by omega), Int.toNat_natCast]
    · rw [if_neg (sim_nothere L _ (.inr (by omega))), if_neg hl]
      unfold simSt
      rw [if_neg hn, if_neg hl]
      rfl
theorem sim_freq (L : List P.S58) (g : Int) (h0 : -1 ≤ g) (h1 : g ≤ L.length) : freqF (simSt L g) = ((posAt L g).length : Int) := by
  unfold freqF posAt
  by_cases hn : g < 0
  · rw [if_neg (sim_nothere L g (.inl hn)), if_pos hn]; rfl
  · rw [if_neg hn]
    obtain ⟨i, rfl⟩ := Int.eq_ofNat_of_zero_le (show 0 ≤ g by omega)
    by_cases hl : (i : Int) < L.length
    · rw [if_pos (sim_here L i (by omega)), if_pos hl, sim_post L i (by omega), Int.toNat_natCast]
    · rw [if_neg (sim_nothere L _ (.inr (by omega))), if_neg hl]; rfl
/-- Where the next one comes to. -/
def nextG (L : List P.S58) (g : Int) : Int := if g < L.length then g + 1 else g
theorem sim_next (L : List P.S58) (hR : rightB (-1) 0 L = true) (g : Int) (h0 : -1 ≤ g) (h1 : g ≤ L.length) : nextF (blksOf L) (simSt L g) = (decide (nextG L g < L.length), simSt L (nextG L g)) := by
  have hlen := rightB_len hR
  unfold nextF nextG
  by_cases hn : g < 0
  · have hg : g = -1 := by omega
    subst hg
    rw [if_neg (fun e => sim_nothere L _ (.inl (by omega)) e.1), if_pos (by omega), sim_start]
    by_cases hz : 0 < L.length
    · rw [load_at L hR _ _ 0 (by omega), show (-1 : Int) + 1 = ((0 : Nat) : Int) from rfl, sim_at L 0 hz, decide_eq_true (by omega)]
      rfl
    · rw [load_end L _ _ 0 (by omega), show (-1 : Int) + 1 = (L.length : Int) from by omega, sim_end, decide_eq_false (by omega)]
  · obtain ⟨i, rfl⟩ := Int.eq_ofNat_of_zero_le (show 0 ≤ g by omega)
    by_cases hl : (i : Int) < L.length
    · rw [if_pos hl]
      have hcl := chunk_len L (i / 8)
      have hpos : (simSt L (i : Int)).at' + 1 < (simSt L (i : Int)).posts.length ↔ i % 8 + 1 < min 8 (L.length - 8 * (i / 8)) := by
        rw [sim_at L i (by omega)]
        dsimp only
        rw [hcl]
        omega
      by_cases hin : i % 8 + 1 < min 8 (L.length - 8 * (i / 8))
      · rw [if_pos ⟨sim_here L i (by omega), hpos.2 hin⟩, show (i : Int) + 1 = ((i + 1 : Nat) : Int) from rfl, sim_at L i (by omega), sim_at L (i + 1) (by omega), decide_eq_true (by omega), show (i + 1) / 8 = i / 8 from by omega, show (i + 1) % 8 = i % 8 + 1 from by omega]
        rfl
      · rw [if_neg (fun e => hin (hpos.1 e.2)), sim_at L i (by omega)]
        by_cases hm : i + 1 < L.length
        · rw [load_at L hR _ _ _ (by omega), show (i : Int) + 1 = ((i + 1 : Nat) : Int) from rfl, sim_at L (i + 1) hm, decide_eq_true (by omega), show (i + 1) / 8 = i / 8 + 1 from by omega, show (i + 1) % 8 = 0 from by omega]
          rfl
        · rw [load_end L _ _ _ (by omega), show (i : Int) + 1 = (L.length : Int) from by omega, sim_end, decide_eq_false (by omega)]
    · have hi : i = L.length := by omega
      subst hi
      rw [if_neg hl, if_neg (fun e => sim_nothere L _ (.inr (by omega)) e.1), sim_end, load_end L _ _ _ (by omega), decide_eq_false (by omega)]
end Go.Proofs.Ytimlgpfcgklddaa
/-
A walk over the list of right posts: Advance.
-/
namespace Go.Proofs.Ytimlgpfcgklddaa
open Go.RowKit
set_option linter.unusedVariables false
/-- How many at the head are ahead of doc. -/
def twL (doc : Int) (l : List P.S58) : Nat := (l.takeWhile fun p => decide (p.f0 < doc)).length
theorem twL_cons (doc : Int) (p : P.S58) (r : List P.S58) : twL doc (p :: r) = if p.f0 < doc then twL doc r + 1 else 0 := by
  unfold twL
  rw [List.takeWhile_cons]
  by_cases h : p.f0 < doc
  · rw [if_pos (decide_eq_true h), if_pos h, List.length_cons]
  · rw [if_neg (by simpa using h), if_neg h]; rfl
theorem twL_le (doc : Int) : ∀ l : List P.S58, twL doc l ≤ l.length
  | [] => Nat.le_refl _
  | p :: r => by
    rw [twL_cons]
    have := twL_le doc r
    split
    · rw [List.length_cons]; omega
    · exact Nat.zero_le _
/-- All of a are ahead of doc. -/
theorem twL_all (doc : Int) : ∀ (a b : List P.S58), (∀ p ∈ a, p.f0 < doc) → twL doc (a ++ b) = a.length + twL doc b
  | [], b, _ => by simp
  | p :: r, b, h => by
    rw [List.cons_append, twL_cons, if_pos (h p (List.mem_cons_self ..)), twL_all doc r b fun q hq => h q (List.mem_cons_of_mem _ hq), List.length_cons]
    omega
/-- One of a is not. -/
theorem twL_some (doc : Int) : ∀ (a b : List P.S58), (∃ p ∈ a, ¬ p.f0 < doc) → twL doc (a ++ b) = twL doc a ∧ twL doc a < a.length
  | [], b, h => by obtain ⟨p, hp, _⟩ := h; cases hp
  | p :: r, b, h => by
    rw [List.cons_append, twL_cons, twL_cons]
    by_cases hp : p.f0 < doc
    · rw [if_pos hp, if_pos hp]
      have ih := twL_some doc r b (by
        obtain ⟨q, hq, hn⟩ := h
        rcases List.mem_cons.1 hq with rfl | hq
        · exact absurd hp hn
        · exact ⟨q, hq, hn⟩)
      rw [List.length_cons]
      omega
    · rw [if_neg hp, if_neg hp, List.length_cons]
      omega
theorem seekN_eq (ps : List P.S58) (i : Nat) (doc : Int) : seekN ps i doc = i + twL doc (ps.drop i) := rfl
/-- Where Advance comes to. -/
def advG (L : List P.S58) (g doc : Int) : Int := ((g.toNat + twL doc (L.drop g.toNat) : Nat) : Int)
theorem advG_le (L : List P.S58) (g doc : Int) (h : g ≤ L.length) : 0 ≤ advG L g doc ∧ advG L g doc ≤ L.length := by
  unfold advG
  have := twL_le doc (L.drop g.toNat)
  rw [List.length_drop] at this
  omega
theorem blk_last (L : List P.S58) (j : Nat) (h : 8 * j < L.length) : (blkAt L j).last = ((chunkOf 8 L j).getD ((chunkOf 8 L j).length - 1) P.z58).f0 := by
  have hcl := chunk_len L j
  have e : (blkAt L j).last = lastOf (blocksOf L (List.range j)).1 ((chunkOf 8 L j).map fun p => p.f0) := by
    show (blocksOf L (List.range (j + 1))).1 = _
    rw [blocks_succ]; rfl
  rw [e, P.lastOf_end _ (by omega)]
  unfold P.rd_T58
  rw [Int.toNat_natCast]
theorem chunk_inc (L : List P.S58) (hR : rightB (-1) 0 L = true) (j : Nat) : ∀ p ∈ chunkOf 8 L j, p.f0 ≤ ((chunkOf 8 L j).getD ((chunkOf 8 L j).length - 1) P.z58).f0 := by
  have hp := (rightB_inc L _ _ hR).2
  have hs : List.Sublist (chunkOf 8 L j) L := (List.take_sublist _ _).trans (List.drop_sublist _ _)
  have hc := List.Pairwise.sublist hs hp
  intro p hpm
  obtain ⟨i, hi, rfl⟩ := List.mem_iff_getElem.1 hpm
  have e : (chunkOf 8 L j).getD ((chunkOf 8 L j).length - 1) P.z58 = (chunkOf 8 L j)[(chunkOf 8 L j).length - 1]'(by omega) := by
    rw [List.getD_eq_getElem?_getD, List.getElem?_eq_getElem (by omega)]; rfl
  rw [e]
  rcases Nat.lt_or_ge i ((chunkOf 8 L j).length - 1) with h | h
  · have := List.pairwise_iff_getElem.1 hc i ((chunkOf 8 L j).length - 1) hi (by omega) h
    omega
  · have : i = (chunkOf 8 L j).length - 1 := by omega
    subst this
    exact Int.le_refl _
/-- The blocks that are skipped. -/
theorem skip_blocks (L : List P.S58) (hR : rightB (-1) 0 L = true) (doc : Int) : ∀ (d i : Nat), i + d = (L.length + 7) / 8 → ∃ t, skipN (blksOf L) i doc = t ∧ ((t < (L.length + 7) / 8 ∧ ¬ (blkAt L t).last < doc ∧ 8 * i + twL doc (L.drop (8 * i)) = 8 * t + twL doc (L.drop (8 * t))) ∨ (t = (L.length + 7) / 8 ∧ 8 * i + twL doc (L.drop (8 * i)) = (if L.length ≤ 8 * i then 8 * i else L.length)))
  | 0, i, h => by
    refine ⟨_, skip_end (by rw [blks_len]; omega), .inr ⟨by omega, ?_⟩⟩
    rw [List.drop_eq_nil_of_le (by omega), if_pos (by omega)]
    rfl
  | d + 1, i, h => by
    have hg := blks_get L i (by omega)
    have hlt : 8 * i < L.length := by omega
    by_cases hp : (blkAt L i).last < doc
    · obtain ⟨t, ht, hh⟩ := skip_blocks L hR doc d (i + 1) (by omega)
      rw [skip_step hg hp] at ht
      refine ⟨t, ht, ?_⟩
      have hall : ∀ p ∈ chunkOf 8 L i, p.f0 < doc := fun p hpm => by
        have h1 := chunk_inc L hR i p hpm
        rw [blk_last L i hlt] at hp
        omega
      have e : twL doc (L.drop (8 * i)) = (chunkOf 8 L i).length + twL doc (L.drop (8 * (i + 1))) := by
        rw [drop_chunk L i]
        exact twL_all doc _ _ hall
      have hcl := chunk_len L i
      rw [e, if_neg (by omega)]
      by_cases hm : 8 * (i + 1) < L.length
      · rw [if_neg (by omega)] at hh
        rcases hh with ⟨h1, h2, h3⟩ | ⟨h1, h2⟩
        · exact .inl ⟨h1, h2, by omega⟩
        · exact .inr ⟨h1, by omega⟩
      · have hz : L.drop (8 * (i + 1)) = [] := List.drop_eq_nil_of_le (by omega)
        have hz2 : twL doc (L.drop (8 * (i + 1))) = 0 := by rw [hz]; rfl
        rw [hz2] at hh ⊢
        rw [if_pos (by omega)] at hh
        rcases hh with ⟨h1, h2, h3⟩ | ⟨h1, h2⟩
        · exfalso
          have hti : i + 1 ≤ t := by
            have := skip_step (doc := doc) hg hp
            rw [← ht, ← this]
            unfold skipN
            omega
          omega
        · exact .inr ⟨h1, by omega⟩
    · exact ⟨i, skip_stop hg hp, .inl ⟨by omega, hp, rfl⟩⟩
theorem seek_chunk (L : List P.S58) (j r : Nat) (doc : Int) (hlt : 8 * j + r < L.length) (hr : r < 8) (hl : ¬ ((chunkOf 8 L j).getD ((chunkOf 8 L j).length - 1) P.z58).f0 < doc) : 8 * j + seekN (chunkOf 8 L j) r doc = 8 * j + r + twL doc (L.drop (8 * j + r)) ∧ seekN (chunkOf 8 L j) r doc < (chunkOf 8 L j).length := by
  have hcl := chunk_len L j
  have e : L.drop (8 * j + r) = (chunkOf 8 L j).drop r ++ L.drop (8 * (j + 1)) := by
    rw [← List.drop_drop, drop_chunk L j, List.drop_append_of_le_length (by omega)]
  have hex : ∃ p ∈ (chunkOf 8 L j).drop r, ¬ p.f0 < doc := by
    refine ⟨(chunkOf 8 L j).getD ((chunkOf 8 L j).length - 1) P.z58, ?_, hl⟩
    rw [List.getD_eq_getElem?_getD, List.getElem?_eq_getElem (by omega)]
    refine List.mem_of_getElem? (i := (chunkOf 8 L j).length - 1 - r) ?_
    rw [List.getElem?_drop, show r + ((chunkOf 8 L j).length - 1 - r) = (chunkOf 8 L j).length - 1 from by omega, List.getElem?_eq_getElem (by omega)]
    rfl
  have ht := twL_some doc _ (L.drop (8 * (j + 1))) hex
  rw [seekN_eq, e, ht.1]
  rw [List.length_drop] at ht
  omega
theorem sim_of (L : List P.S58) (j r : Nat) (h : r < (chunkOf 8 L j).length) : simSt L ((8 * j + r : Nat) : Int) = ⟨chunkOf 8 L j, (r : Int), j + 1⟩ := by
  have hcl := chunk_len L j
  rw [sim_at L (8 * j + r) (by omega), show (8 * j + r) / 8 = j from by omega, show (8 * j + r) % 8 = r from by omega]
/-- From block i on. -/
theorem adv_from (L : List P.S58) (hR : rightB (-1) 0 L = true) (ps : List P.S58) (a : Int) (i : Nat) (doc : Int) (hi : i ≤ (L.length + 7) / 8) : (if (loadF (blksOf L) ⟨ps, a, skipN (blksOf L) i doc⟩).1 = true then (true, { (loadF (blksOf L) ⟨ps, a, skipN (blksOf L) i doc⟩).2 with at' := (seekN (loadF (blksOf L) ⟨ps, a, skipN (blksOf L) i doc⟩).2.posts 0 doc : Int) }) else (false, (loadF (blksOf L) ⟨ps, a, skipN (blksOf L) i doc⟩).2)) = (decide (((min (8 * i) L.length + twL doc (L.drop (min (8 * i) L.length)) : Nat) : Int) < L.length), simSt L ((min (8 * i) L.length + twL doc (L.drop (min (8 * i) L.length)) : Nat) : Int)) := by
  obtain ⟨t, ht, hh⟩ := skip_blocks L hR doc ((L.length + 7) / 8 - i) i (by omega)
  rw [ht]
  have hmin : min (8 * i) L.length + twL doc (L.drop (min (8 * i) L.length)) = min (8 * i + twL doc (L.drop (8 * i))) L.length := by
    rcases Nat.lt_or_ge (8 * i) L.length with h1 | h1
    · rw [Nat.min_eq_left (by omega)]
      have := twL_le doc (L.drop (8 * i))
      rw [List.length_drop] at this
      omega
    · rw [Nat.min_eq_right h1, List.drop_eq_nil_of_le (Nat.le_refl _), List.drop_eq_nil_of_le h1]
      show L.length + 0 = min (8 * i + 0) L.length
      omega
  rw [hmin]
  rcases hh with ⟨h1, h2, h3⟩ | ⟨h1, h2⟩
  · rw [load_at L hR ps a t h1, if_pos rfl]
    dsimp only
    have hlt : 8 * t < L.length := by omega
    rw [blk_last L t hlt] at h2
    have hs := seek_chunk L t 0 doc (by omega) (by omega) h2
    rw [Nat.add_zero] at hs
    have hcl := chunk_len L t
    have e : min (8 * i + twL doc (L.drop (8 * i))) L.length = 8 * t + seekN (chunkOf 8 L t) 0 doc := by omega
    rw [e, sim_of L t _ hs.2, decide_eq_true (by omega)]
  · rw [h1, load_end L ps a _ (Nat.le_refl _), if_neg (by decide)]
    have e : min (8 * i + twL doc (L.drop (8 * i))) L.length = L.length := by split at h2 <;> omega
    rw [e, sim_end, decide_eq_false (by omega)]
theorem sim_adv (L : List P.S58) (hR : rightB (-1) 0 L = true) (g doc : Int) (h0 : -1 ≤ g) (h1 : g ≤ L.length) : advF (blksOf L) (simSt L g) doc = (decide (advG L g doc < L.length), simSt L (advG L g doc)) := by
  have hlen := rightB_len hR
  unfold advF advG
  by_cases hn : g < 0
  · have hg : g = -1 := by omega
    subst hg
    rw [if_neg (fun e => sim_nothere L _ (.inl (by omega)) e.1), sim_start]
    have h := adv_from L hR [] (-1) 0 doc (Nat.zero_le _)
    rw [show min (8 * 0) L.length = 0 from by omega] at h
    exact h
  · obtain ⟨i, rfl⟩ := Int.eq_ofNat_of_zero_le (show 0 ≤ g by omega)
    rw [Int.toNat_natCast]
    by_cases hl : i < L.length
    · have hcl := chunk_len L (i / 8)
      have hh := sim_here L i hl
      rw [sim_at L i hl] at hh ⊢
      dsimp only
      by_cases hd : ((chunkOf 8 L (i / 8)).getD ((chunkOf 8 L (i / 8)).length - 1) P.z58).f0 < doc
      · rw [if_neg (fun e => e.2 hd)]
        have h := adv_from L hR (chunkOf 8 L (i / 8)) ((i % 8 : Nat) : Int) (i / 8 + 1) doc (by omega)
        have e1 : L.drop i = (chunkOf 8 L (i / 8)).drop (i % 8) ++ L.drop (8 * (i / 8 + 1)) := by
          rw [← List.drop_append_of_le_length (by omega), ← drop_chunk, List.drop_drop]
          congr 1
          omega
        have e2 : twL doc (L.drop i) = ((chunkOf 8 L (i / 8)).drop (i % 8)).length + twL doc (L.drop (8 * (i / 8 + 1))) := by
          rw [e1]
          exact twL_all doc _ _ fun p hp => by
            have := chunk_inc L hR (i / 8) p (List.mem_of_mem_drop hp)
            omega
        have e3 : i + twL doc (L.drop i) = min (8 * (i / 8 + 1)) L.length + twL doc (L.drop (min (8 * (i / 8 + 1)) L.length)) := by
          rw [e2, List.length_drop]
          rcases Nat.lt_or_ge (8 * (i / 8 + 1)) L.length with h4 | h4
          · rw [Nat.min_eq_left (by omega)]; omega
          · rw [Nat.min_eq_right h4, List.drop_eq_nil_of_le (Nat.le_refl _), List.drop_eq_nil_of_le h4]
            show i + ((chunkOf 8 L (i / 8)).length - i % 8 + 0) = L.length + 0
            omega
        rw [e3]
        exact h
      · rw [if_pos ⟨hh, hd⟩]
        have hs := seek_chunk L (i / 8) (i % 8) doc (by omega) (by omega) hd
        rw [show 8 * (i / 8) + i % 8 = i from by omega] at hs
        rw [Int.toNat_natCast, ← hs.1, sim_of L (i / 8) _ hs.2, decide_eq_true (by omega)]
    · have hi : i = L.length := by omega
      subst hi
      rw [if_neg (fun e => sim_nothere L _ (.inr (by omega)) e.1), sim_end]
      have e0 : skipN (blksOf L) 1073741824 doc = 1073741824 := skip_end (by rw [blks_len]; omega)
      dsimp only
      rw [e0, load_end L _ _ _ (by omega), if_neg (by decide), List.drop_eq_nil_of_le (Nat.le_refl _)]
      show (false, (⟨[], 0, 1073741824⟩ : ISt)) = (decide (((L.length + 0 : Nat) : Int) < L.length), simSt L ((L.length + 0 : Nat) : Int))
      rw [Nat.add_zero, sim_end, decide_eq_false (by omega)]
end Go.Proofs.Ytimlgpfcgklddaa
