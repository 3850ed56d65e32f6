/-
Texts of this seat, laid together: M13.
-/
import Derived.Test.YtimlgpfcgklddaaQR6
namespace Go.Proofs.Ytimlgpfcgklddaa
open Go.RowKit
set_option linter.unusedVariables false
theorem rSize_back (pre rest : List Int) (u most : Int) (h0 : 0 ≤ u) (h1 : u < 18446744073709551616) (h2 : u ≤ most) : rSize ⟨pre ++ (uv u ++ rest), pre.length, 0⟩ most = (u, ⟨pre ++ (uv u ++ rest), pre.length + (uv u).length, 0⟩) := by
  have hs : sizeF (uv u ++ rest) most = (u, ((uv u).length : Int)) := by
    unfold sizeF
    rw [numF_uv h0 h1]
    exact if_neg (by simp; omega)
  unfold rSize took
  simp only [List.drop_left]
  rw [hs, if_neg (by simp), if_neg (by omega)]
  simp only [Int.toNat_natCast]
theorem lastOf_append (a b : List Int) : ∀ la : Int, lastOf la (a ++ b) = lastOf (lastOf la a) b := by
  induction a with
  | nil => intro la; rfl
  | cons x r ih => intro la; rw [List.cons_append, lastOf, lastOf, ih]
theorem rightB_append : ∀ (a b : List P.S58) (la all : Int), rightB la all (a ++ b) = true → 0 ≤ all → ∃ all', 0 ≤ all' ∧ rightB (lastOf la (a.map fun p => p.f0)) all' b = true
  | [], b, la, all, h, h0 => ⟨all, h0, h⟩
  | p :: r, b, la, all, h, h0 => by
    rw [List.cons_append, rightB, Bool.and_eq_true] at h
    exact rightB_append r b p.f0 _ h.2 (by omega)
theorem lastOf_mono : ∀ (blk rest : List P.S58) (la all : Int), rightB la all (blk ++ rest) = true → la ≤ lastOf la (blk.map fun p => p.f0)
  | [], rest, la, all, h => Int.le_refl _
  | p :: r, rest, la, all, h => by
    rw [List.cons_append, rightB, Bool.and_eq_true] at h
    have h1 := (postB_chk h.1).2.1
    have h2 := lastOf_mono r rest p.f0 _ h.2
    show la ≤ lastOf p.f0 (r.map fun p => p.f0)
    omega
theorem blocks_last (L : List P.S58) : ∀ j, (blocksOf L (List.range j)).1 = lastOf (-1) ((L.take (8 * j)).map fun p => p.f0)
  | 0 => rfl
  | j + 1 => by
    rw [blocks_succ]
    unfold blockStep
    dsimp only
    rw [blocks_last L j, ← lastOf_append, ← List.map_append]
    congr 2
    unfold chunkOf
    rw [Nat.mul_comm j, show 8 * (j + 1) = 8 * j + 8 from by omega, List.take_add]
def blkAt (L : List P.S58) (j : Nat) : Blk := ⟨rowsOf (blocksOf L (List.range j)).1 (chunkOf 8 L j), (blocksOf L (List.range j)).1, (blocksOf L (List.range (j + 1))).1, (chunkOf 8 L j).length⟩
def blksOf (L : List P.S58) : List Blk := (List.range ((L.length + 7) / 8)).map (blkAt L)
theorem blocks_tail (L : List P.S58) : ∀ (m j : Nat), ∃ T, (blocksOf L (List.range (j + m))).2 = (blocksOf L (List.range j)).2 ++ T
  | 0, j => ⟨[], by simp⟩
  | m + 1, j => by
    obtain ⟨T, hT⟩ := blocks_tail L m j
    rw [← Nat.add_assoc, blocks_succ]
    unfold blockStep
    dsimp only
    rw [hT]
    exact ⟨_, by simp only [List.append_assoc]; rfl⟩
theorem openGo_back (L : List P.S58) (hR : rightB (-1) 0 L = true) : ∀ (m j : Nat), j + m = (L.length + 7) / 8 → openGo (formOf L) L.length m ⟨formOf L, (blocksOf L (List.range j)).2.length, 0⟩ (8 * j) (blocksOf L (List.range j)).1 ((List.range j).map (blkAt L)) (L.take (8 * j)) = some (blksOf L, L, ⟨formOf L, (formOf L).length, 0⟩)
  | 0, j, h => by
    have e : formOf L = (blocksOf L (List.range j)).2 := by unfold formOf; rw [show (L.length + 7) / 8 = j from by omega]
    rw [openGo, List.take_of_length_le (by omega), ← e]
    unfold blksOf
    rw [show (L.length + 7) / 8 = j from by omega]
  | m + 1, j, h => by
    have ih := openGo_back L hR m (j + 1) (by omega)
    have hb := blocks_bounds L hR j
    have hb1 := blocks_bounds L hR (j + 1)
    have hlen := rightB_len hR
    have ok := blockOk_chunk hR j (blocksOf L (List.range j)).1 hb.1 (by omega)
    obtain ⟨T, hT⟩ := blocks_tail L m (j + 1)
    rw [show j + 1 + m = (L.length + 7) / 8 from by omega] at hT
    have hF : formOf L = (blocksOf L (List.range (j + 1))).2 ++ T := hT
    have hlast1 : (blocksOf L (List.range (j + 1))).1 = lastOf (blocksOf L (List.range j)).1 ((chunkOf 8 L j).map fun p => p.f0) := by rw [blocks_succ]; rfl
    have hbytes : (blocksOf L (List.range (j + 1))).2 = (blocksOf L (List.range j)).2 ++ uv ((rowsOf (blocksOf L (List.range j)).1 (chunkOf 8 L j)).length : Int) ++ uv ((lastOf (blocksOf L (List.range j)).1 ((chunkOf 8 L j).map fun p => p.f0) - (blocksOf L (List.range j)).1) % 18446744073709551616) ++ rowsOf (blocksOf L (List.range j)).1 (chunkOf 8 L j) := by rw [blocks_succ]; rfl
    have hblk : blkAt L j = ⟨rowsOf (blocksOf L (List.range j)).1 (chunkOf 8 L j), (blocksOf L (List.range j)).1, (blocksOf L (List.range (j + 1))).1, (chunkOf 8 L j).length⟩ := rfl
    have hcl : (chunkOf 8 L j).length = min 8 (L.length - 8 * j) := by unfold chunkOf; rw [List.length_take, List.length_drop, Nat.mul_comm j]
    -- the suffix is right
    have hsplit : L = L.take (8 * j) ++ (chunkOf 8 L j ++ L.drop (8 * (j + 1))) := by
      unfold chunkOf
      rw [Nat.mul_comm j, show 8 * (j + 1) = 8 * j + 8 from by omega, ← List.drop_drop, List.take_append_drop, List.take_append_drop]
    obtain ⟨all', hall0, hsuf⟩ := rightB_append (L.take (8 * j)) (chunkOf 8 L j ++ L.drop (8 * (j + 1))) (-1) 0 (by rw [← hsplit]; exact hR) (by omega)
    rw [← blocks_last] at hsuf
    have hmono := lastOf_mono _ _ _ _ hsuf
    obtain ⟨P0, hP0⟩ : ∃ x, (blocksOf L (List.range j)).2 = x := ⟨_, rfl⟩
    obtain ⟨la, hla⟩ : ∃ x, (blocksOf L (List.range j)).1 = x := ⟨_, rfl⟩
    obtain ⟨c, hc⟩ : ∃ x, chunkOf 8 L j = x := ⟨_, rfl⟩
    obtain ⟨en, hen⟩ : ∃ x, (blocksOf L (List.range (j + 1))).1 = x := ⟨_, rfl⟩
    rw [hla, hc] at hsuf hmono ok hlast1 hbytes hblk
    rw [hen] at hlast1 hblk hb1
    rw [hla] at hb
    rw [← hlast1] at hmono hbytes
    rw [hc] at hcl
    rw [hP0] at hbytes hb
    obtain ⟨b, hbe⟩ : ∃ x, rowsOf la c = x := ⟨_, rfl⟩
    rw [hbe] at hbytes hblk
    have hpo := postsF_back c (L.drop (8 * (j + 1))) la all' en ok hsuf
    rw [hbe, ← hlast1] at hpo
    have hd : (en - la) % 18446744073709551616 = en - la := by omega
    rw [hd] at hbytes
    have hbl := P.rowsOf_len ok
    rw [hbe] at hbl
    rw [hP0, hla]
    obtain ⟨bs, hbs⟩ : ∃ x, formOf L = x := ⟨_, rfl⟩
    rw [hbs] at hF ih ⊢
    rw [hbytes] at hF
    have F1 : bs = P0 ++ (uv (b.length : Int) ++ (uv (en - la) ++ (b ++ T))) := by rw [hF]; simp only [List.append_assoc]
    have F2 : bs = (P0 ++ uv (b.length : Int)) ++ (uv (en - la) ++ (b ++ T)) := by rw [F1]; simp only [List.append_assoc]
    have F3 : bs = (P0 ++ uv (b.length : Int) ++ uv (en - la)) ++ (b ++ T) := by rw [F1]; simp only [List.append_assoc]
    have hble : (b.length : Int) ≤ bs.length := by rw [F1]; simp only [List.length_append]; omega
    have r1 := rSize_back P0 (uv (en - la) ++ (b ++ T)) (b.length : Int) (bs.length : Int) (by omega) (by omega) hble
    have r2 := rSize_back (P0 ++ uv (b.length : Int)) (b ++ T) (en - la) 16384 (by omega) (by omega) (by omega)
    have r3 := rBytes_back (P0 ++ uv (b.length : Int) ++ uv (en - la)) b T
    rw [← F1] at r1
    rw [← F2, List.length_append] at r2
    rw [← F3, List.length_append, List.length_append] at r3
    rw [openGo]
    try dsimp only
    rw [r1]
    try dsimp only
    rw [r2]
    try dsimp only
    rw [r3]
    try dsimp only
    rw [← hcl, show la + (en - la) = en from by omega, hpo]
    try dsimp only
    rw [if_neg (by simp)]
    have e1 : (blocksOf L (List.range (j + 1))).2.length = P0.length + (uv (b.length : Int)).length + (uv (en - la)).length + b.length := by
      rw [hbytes]; simp only [List.length_append]
    rw [e1, hen, List.range_succ, List.map_append, List.map_cons, List.map_nil, hblk] at ih
    have e2 : L.take (8 * (j + 1)) = L.take (8 * j) ++ c := by
      rw [← hc]
      unfold chunkOf
      rw [Nat.mul_comm j, show 8 * (j + 1) = 8 * j + 8 from by omega, List.take_add]
    rw [e2] at ih
    exact ih
theorem openF_back (L : List P.S58) (hR : rightB (-1) 0 L = true) : openF (formOf L) = some (blksOf L, L.length) := by
  have hlen := rightB_len hR
  obtain ⟨T, hT⟩ := blocks_tail L ((L.length + 7) / 8) 0
  rw [Nat.zero_add] at hT
  have hF : formOf L = uv (L.length : Int) ++ T := hT
  have r1 := rSize_back [] T (L.length : Int) 16384 (by omega) (by omega) (by omega)
  rw [List.nil_append, ← hF, List.length_nil, Nat.zero_add] at r1
  have h := openGo_back L hR ((L.length + 7) / 8) 0 (by omega)
  have e : (blocksOf L (List.range 0)).2.length = (uv (L.length : Int)).length := rfl
  rw [e] at h
  unfold openF
  dsimp only
  rw [r1]
  dsimp only
  rw [Int.toNat_natCast]
  have e2 : (blocksOf L (List.range 0)).1 = -1 := rfl
  rw [e2, Nat.mul_zero, List.take_zero] at h
  have h' : openGo (formOf L) L.length ((L.length + 7) / 8) ⟨formOf L, (uv (L.length : Int)).length, 0⟩ 0 (-1) [] [] = some (blksOf L, L, ⟨formOf L, (formOf L).length, 0⟩) := h
  rw [h']
  dsimp only
  rw [if_neg]
  rintro (h | h | h)
  · unfold P.rEnd at h
    rw [if_neg (by simp)] at h
    exact h rfl
  · rw [hR] at h; cases h
  · exact h rfl
end Go.Proofs.Ytimlgpfcgklddaa
