/-
Texts of this seat, laid together: G1, G2.
-/
import Derived.Test.YtimlgpfcgklddaaXM14
import Derived.Test.YtimlgpfcgklddaaXD12
import Derived.Test.YtimlgpfcgklddaaXD11
import Derived.Test.YtimlgpfcgklddaaXD6
/-
Walks over the opened form of right posts, by contract at their places.
-/
namespace Go.Proofs.Ytimlgpfcgklddaa
open Go.RowKit
set_option linter.unusedVariables false
theorem form_bytes (L : List P.S58) (hR : rightB (-1) 0 L = true) : ∀ j, j ≤ (L.length + 7) / 8 → ∀ x ∈ (blocksOf L (List.range j)).2, 0 ≤ x ∧ x < 256
  | 0, _, x, hx => uv_bytes _ x hx
  | j + 1, hj, x, hx => by
    have ih := form_bytes L hR j (by omega)
    have hb := (blk_ok L hR (blkAt L j) (List.mem_of_getElem? (blks_get L j (by omega)))).range
    rw [blocks_succ] at hx
    unfold blockStep at hx
    dsimp only at hx
    rcases List.mem_append.1 hx with hx | hx
    · rcases List.mem_append.1 hx with hx | hx
      · rcases List.mem_append.1 hx with hx | hx
        · exact ih x hx
        · exact uv_bytes _ x hx
      · exact uv_bytes _ x hx
    · exact hb x hx
theorem form_range (L : List P.S58) (hR : rightB (-1) 0 L = true) : ∀ x ∈ formOf L, 0 ≤ x ∧ x < 256 := form_bytes L hR _ (Nat.le_refl _)
theorem form_len (L : List P.S58) (hR : rightB (-1) 0 L = true) : (formOf L).length ≤ 140737488355328 := by
  have h1 := (blocks_bounds L hR ((L.length + 7) / 8)).2.2
  have h2 := rightB_len hR
  have h3 : formOf L = (blocksOf L (List.range ((L.length + 7) / 8))).2 := rfl
  rw [h3]
  omega
theorem sim_pos (L : List P.S58) (g : Int) (h0 : -1 ≤ g) (h1 : g ≤ L.length) : posF (simSt L g) = posAt L g := by
  unfold posF posAt
  by_cases hn : g < 0
  · rw [if_neg (sim_nothere L g (.inl hn)), if_pos hn]
  · rw [if_neg hn]
    obtain ⟨i, rfl⟩ := Int.eq_ofNat_of_zero_le (show 0 ≤ g by omega)
    by_cases hl : (i : Int) < L.length
    · rw [if_pos (sim_here L i (by omega)), if_pos hl, sim_post L i (by omega), Int.toNat_natCast]
    · rw [if_neg (sim_nothere L _ (.inr (by omega))), if_neg hl]
theorem getD_mem (L : List P.S58) (i : Nat) (h : i < L.length) : L.getD i P.z58 ∈ L := by
  rw [List.getD_eq_getElem?_getD, List.getElem?_eq_getElem h]
  exact List.getElem_mem h
theorem doc_range (L : List P.S58) (hR : rightB (-1) 0 L = true) (i : Nat) (h : i < L.length) : 0 ≤ (L.getD i P.z58).f0 ∧ (L.getD i P.z58).f0 < 16384 := ((rightB_ok L (-1) 0 hR (by omega) (by omega)).2.1 _ (getD_mem L i h)).doc
theorem posAt_len (L : List P.S58) (hR : rightB (-1) 0 L = true) (g : Int) : (posAt L g).length ≤ 1048576 := by
  unfold posAt
  split
  · simp
  · split
    · exact rightB_pos hR _ (getD_mem L _ (by omega))
    · simp
theorem doc_lt (L : List P.S58) (hR : rightB (-1) 0 L = true) (g : Int) (h0 : 0 ≤ g) (h1 : g ≤ L.length) : docAt L g < 16384 ↔ g < L.length := by
  unfold docAt
  rw [if_neg (by omega)]
  split
  · rename_i h
    have := doc_range L hR g.toNat (by omega)
    omega
  · rename_i h
    omega
theorem doc_mono (L : List P.S58) (hR : rightB (-1) 0 L = true) (g h : Int) (h0 : -1 ≤ g) (h1 : g ≤ h) (h2 : h ≤ L.length) : docAt L g ≤ docAt L h := by
  unfold docAt
  by_cases hg : g < 0
  · rw [if_pos hg]
    split
    · omega
    · split
      · have := doc_range L hR h.toNat (by omega); omega
      · omega
  · rw [if_neg hg, if_neg (show ¬ h < 0 by omega)]
    by_cases hl : h < L.length
    · rw [if_pos (show g < L.length by omega), if_pos hl]
      have hp := (rightB_inc L _ _ hR).2
      rw [List.getD_eq_getElem?_getD, List.getD_eq_getElem?_getD, List.getElem?_eq_getElem (by omega), List.getElem?_eq_getElem (by omega)]
      rcases (by omega : g < h ∨ g ≥ h) with h3 | h3
      · have := List.pairwise_iff_getElem.1 hp g.toNat h.toNat (by omega) (by omega) (by omega)
        simp only [Option.getD_some]
        omega
      · have : g = h := by omega
        subst this
        exact Int.le_refl _
    · rw [if_neg hl]
      split
      · have := doc_range L hR g.toNat (by omega); omega
      · omega
/-- Advance, one step at a time. -/
theorem advG_step (L : List P.S58) (hR : rightB (-1) 0 L = true) (h doc : Int) (h0 : -1 ≤ h) (h1 : h ≤ L.length) (hc : docAt L h < doc ∨ docAt L h < 0) : advG L (nextG L h) doc = advG L h doc := by
  unfold nextG advG
  by_cases hl : h < L.length
  · rw [if_pos hl]
    by_cases hn : h < 0
    · have : h = -1 := by omega
      subst this
      rfl
    · obtain ⟨i, rfl⟩ := Int.eq_ofNat_of_zero_le (show 0 ≤ h by omega)
      rw [show (i : Int) + 1 = ((i + 1 : Nat) : Int) from rfl, Int.toNat_natCast, Int.toNat_natCast]
      have hd : (L.getD i P.z58).f0 < doc ∨ (L.getD i P.z58).f0 < 0 := by
        unfold docAt at hc
        rw [if_neg hn, if_pos hl, Int.toNat_natCast] at hc
        exact hc
      have hg : L.getD i P.z58 = L[i]'(by omega) := by rw [List.getD_eq_getElem?_getD, List.getElem?_eq_getElem (by omega)]; rfl
      rw [List.drop_eq_getElem_cons (show i < L.length by omega), twL_cons, ← hg]
      by_cases h3 : (L.getD i P.z58).f0 < doc
      · rw [if_pos h3]; omega
      · exfalso
        have := doc_range L hR i (by omega)
        omega
  · rw [if_neg hl]
theorem advG_stop (L : List P.S58) (h doc : Int) (h0 : -1 ≤ h) (h1 : h ≤ L.length) (hc : ¬ docAt L h < doc) (hd : ¬ docAt L h < 0) : advG L h doc = h := by
  unfold docAt at hc hd
  unfold advG
  by_cases hn : h < 0
  · rw [if_pos hn] at hd; omega
  · rw [if_neg hn] at hc
    obtain ⟨i, rfl⟩ := Int.eq_ofNat_of_zero_le (show 0 ≤ h by omega)
    rw [Int.toNat_natCast]
    by_cases hl : (i : Int) < L.length
    · rw [if_pos hl, Int.toNat_natCast] at hc
      have hg : L.getD i P.z58 = L[i]'(by omega) := by rw [List.getD_eq_getElem?_getD, List.getElem?_eq_getElem (by omega)]; rfl
      rw [List.drop_eq_getElem_cons (show i < L.length by omega), twL_cons, ← hg, if_neg hc]
      rfl
    · rw [List.drop_eq_nil_of_le (by omega)]
      rfl
theorem advG_end (L : List P.S58) (doc : Int) : advG L (L.length : Int) doc = L.length := by
  unfold advG
  rw [Int.toNat_natCast, List.drop_eq_nil_of_le (Nat.le_refl _)]
  rfl
end Go.Proofs.Ytimlgpfcgklddaa
/-
Walks over the opened form of right posts: the calls at their places.
-/
namespace Go.Proofs.Ytimlgpfcgklddaa.P
open Go.RowKit Go.Shelf Go.Proofs.YtimlgpfcgklddaaW.PrintWords Go.Proofs.YtimlgpfcgklddaaW.PrintLast Go.Proofs.YtimlgpfcgklddaaW.PrintMore
set_option linter.unusedVariables false
/-- A walk at block I stands at place g of the list at block B. -/
structure Wk (L : List S58) (w : World) (I base B : Nat) (g : Int) : Prop where
  it : Itr w I base B (blksOf L) (simSt L g)
  g0 : -1 ≤ g
  g1 : g ≤ L.length
theorem Wk.below {L : List S58} {w w' : World} {I base B : Nat} {g : Int} (h : Wk L w I base B g) (hb : Below w.heap.size w w') : Wk L w' I base B g := ⟨h.it.below hb, h.g0, h.g1⟩
theorem Wk.other {L : List S58} {w w' : World} {I J base B : Nat} {g g' : Int} (h : Wk L w I base B g) (hJ : Wk L w J base B g') (hne : I ≠ J) (hg : w.grownBy w' (some J)) : Wk L w' I base B g := by
  obtain ⟨vp, h1, _⟩ := hJ.it.v
  exact ⟨h.it.other h1 hne hg, h.g0, h.g1⟩
theorem OpenL_calls (L : List S58) (hR : rightB (-1) 0 L = true) (A : Option Addr) (c : Nat) (w : World) (h : (Kd.int .u8).C w A (formOf L).length (formOf L)) (hc : (formOf L).length ≤ c) :
    Calls Try.prog 16 #[.slice A (formOf L).length c] w fun e w' => ∃ B, e = .returned (.tuple #[.pointer (some ⟨B, 0, none⟩), .int .i64 0]) ∧ Lst w' B w.heap.size (blksOf L) ∧ Below w.heap.size w w' := by
  refine (Open_calls A (formOf L) c w h hc (form_len L hR) (form_range L hR)).mono ?_
  rintro e w' ⟨h, hb⟩
  rw [openF_back L hR] at h
  rcases h with ⟨h, _⟩ | ⟨bl, n, B, vb, h, rfl, _, hL, hx⟩
  · cases h
  · injection h with h
    injection h with h1 h2
    subst h1; subst h2
    have hlen := rightB_len hR
    exact ⟨B, rfl, ⟨⟨vb, _, hL, hx⟩, blk_ok L hR, by rw [blks_len]; omega⟩, hb⟩
theorem WIter_calls (L : List S58) (B base : Nat) (w : World) (h : Lst w B base (blksOf L)) (hb : base ≤ w.heap.size) :
    Calls Try.prog 17 #[.pointer (some ⟨B, 0, none⟩)] w fun e w' => e = .returned (.pointer (some ⟨w.heap.size, 0, none⟩)) ∧ Wk L w' w.heap.size base B (-1) ∧ Below w.heap.size w w' :=
  (Iter_calls B base (blksOf L) w h hb).mono fun e w' ⟨h1, h2, h3⟩ => ⟨h1, ⟨h2, by omega, by omega⟩, h3⟩
theorem WDoc_calls (L : List S58) (I base B : Nat) (g : Int) (w : World) (h : Wk L w I base B g) :
    Calls Try.prog 24 #[.pointer (some ⟨I, 0, none⟩)] w fun e w' => e = .returned (.int .i64 (docAt L g)) ∧ ∃ n, w' = w.drewN n :=
  (Doc_calls I base B (blksOf L) (simSt L g) w h.it).mono fun e w' ⟨h1, h2⟩ => ⟨by rw [h1, sim_doc L g h.g0 h.g1], h2.out⟩
theorem WFreq_calls (L : List S58) (I base B : Nat) (g : Int) (w : World) (h : Wk L w I base B g) :
    Calls Try.prog 26 #[.pointer (some ⟨I, 0, none⟩)] w fun e w' => e = .returned (.int .i64 ((posAt L g).length : Int)) ∧ ∃ n, w' = w.drewN n :=
  (Freq_calls I base B (blksOf L) (simSt L g) w h.it).mono fun e w' ⟨h1, h2⟩ => ⟨by rw [h1, sim_freq L g h.g0 h.g1], h2.out⟩
theorem WPos_calls (L : List S58) (hR : rightB (-1) 0 L = true) (I base B : Nat) (g : Int) (w : World) (h : Wk L w I base B g) :
    Calls Try.prog 22 #[.pointer (some ⟨I, 0, none⟩)] w fun e w' => ∃ A c, e = .returned (.slice A (posAt L g).length c) ∧ (posAt L g).length ≤ c ∧ Lx .i64 3 w' w.heap.size (.slice A (posAt L g).length c) (posAt L g) ∧ Below w.heap.size w w' := by
  have e := sim_pos L g h.g0 h.g1
  refine (Positions_calls I base B (blksOf L) (simSt L g) w h.it (by rw [e]; exact posAt_len L hR g)).mono ?_
  rintro e' w' ⟨v, rfl, h1, h2⟩
  rw [e] at h1
  obtain ⟨A, c, rfl, hc, _⟩ := h1.reads
  exact ⟨A, c, rfl, hc, h1, h2⟩
theorem nextG_le (L : List S58) (g : Int) (h0 : -1 ≤ g) (h1 : g ≤ L.length) : 0 ≤ nextG L g ∧ nextG L g ≤ L.length := by
  unfold nextG
  split <;> omega
theorem WNext_calls (L : List S58) (hR : rightB (-1) 0 L = true) (I base B : Nat) (g : Int) (w : World) (h : Wk L w I base B g) (hb : base ≤ w.heap.size) :
    Calls Try.prog 18 #[.pointer (some ⟨I, 0, none⟩)] w fun e w' => e = .returned (.bool (decide (nextG L g < L.length))) ∧ Wk L w' I base B (nextG L g) ∧ w.grownBy w' (some I) := by
  refine (Next_calls I base B (blksOf L) (simSt L g) w h.it hb).mono ?_
  rw [sim_next L hR g h.g0 h.g1]
  have hn := nextG_le L g h.g0 h.g1
  exact fun e w' ⟨h1, h2, h3⟩ => ⟨h1, ⟨h2, by omega, hn.2⟩, h3⟩
theorem WAdv_calls (L : List S58) (hR : rightB (-1) 0 L = true) (I base B : Nat) (g doc : Int) (w : World) (h : Wk L w I base B g) (hb : base ≤ w.heap.size) :
    Calls Try.prog 20 #[.pointer (some ⟨I, 0, none⟩), .int .i64 doc] w fun e w' => e = .returned (.bool (decide (advG L g doc < L.length))) ∧ Wk L w' I base B (advG L g doc) ∧ w.grownBy w' (some I) := by
  refine (Adv_calls I base B (blksOf L) (simSt L g) doc w h.it hb).mono ?_
  rw [sim_adv L hR g doc h.g0 h.g1]
  have hn := advG_le L g doc h.g1
  exact fun e w' ⟨h1, h2, h3⟩ => ⟨h1, ⟨h2, by omega, hn.2⟩, h3⟩
end Go.Proofs.Ytimlgpfcgklddaa.P
