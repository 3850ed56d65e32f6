/-
Texts of this seat, laid together: D12.
-/
import Derived.Test.YtimlgpfcgklddaaXD8
/-
Walks over a list: Positions.
-/
namespace Go.Proofs.Ytimlgpfcgklddaa
def posF (s : ISt) : List Int := if s.here then s.post.f1 else []
end Go.Proofs.Ytimlgpfcgklddaa
namespace Go.Proofs.Ytimlgpfcgklddaa.P
open Go.RowKit Go.Shelf Go.Proofs.YtimlgpfcgklddaaW.PrintWords Go.Proofs.YtimlgpfcgklddaaW.PrintLast Go.Proofs.YtimlgpfcgklddaaW.PrintMore
set_option linter.unusedVariables false
set_option linter.unusedSimpArgs false
set_option maxHeartbeats 400000 in
theorem CloneI_calls (A : Option Addr) (xs : List Int) (c : Nat) (w : World) (h : (Kd.int .i64).C w A xs.length xs) (hc : xs.length ≤ c) (hl : xs.length ≤ 17592186044416) :
    Calls Try.prog 59 #[.slice A xs.length c] w fun e w' => ∃ v, e = .returned v ∧ Lx .i64 3 w' w.heap.size v xs ∧ Below w.heap.size w w' := by
  rcases A with _ | ad
  · have h0 : xs.length = 0 := by
      rcases Nat.eq_zero_or_pos xs.length with h0 | h0
      · exact h0
      · obtain ⟨ad, h, _⟩ := h.2.2 h0
        cases h
    obtain rfl : xs = [] := List.eq_nil_of_length_eq_zero h0
    clear h h0 hc hl
    have heq : ∀ w, (binOp .eql 52 (.slice none 0 c) (.slice none 0 0)).run Try.prog w = .ok (.bool true) w := fun w => Lib.run_eql_slice_nil w 52 3 none 0 c 0 0 Try.underlying52
    go_enter Try.func59, Try.ntmps59
    go_wp2
    go_ret
    exact ⟨_, rfl, Lx.nil _ _ _ _, Below.refl _ _⟩
  · have H := Aside0.mk h
    have HL := Aside0.mk hl
    clear h hl
    have heq : ∀ w, (binOp .eql 52 (.slice (some ad) xs.length c) (.slice none 0 0)).run Try.prog w = .ok (.bool false) w := fun w => Lib.run_eql_slice_nil w 52 3 (some ad) xs.length c 0 0 Try.underlying52
    go_enter Try.func59, Try.ntmps59
    go_wp2_with ((with_reducible refine gate_builtin (b := .append) (xs := #[.tmp 5, .tmp 6]) rfl ?_); at_builtin; refine Lx.append_row (w0 := w) .i64 w.heap.size rfl (.tmp 5) (.tmp 6) 52 3 8 rfl Try.underlying52 info3 (by decide) (.slice (some ⟨w.heap.size, 0, none⟩) 0 0) [] xs (some ad) xs.length c rfl rfl ?aO ?aR ?aB ?aS ?aL ?_; (case aO => exact Lx.empty _ _ _ _ (Nat.le_refl _)); (case aR => exact Kd.C_alloc H.out _); (case aB => exact below_alloc (Below.refl _ _) _); (case aS => simp); (case aL => have := HL.out; simp; omega); intro v1 w1 ho hb hg hat)
    go_ret
    exact ⟨_, rfl, by simpa using ho, hb⟩
set_option maxRecDepth 100000 in
set_option maxHeartbeats 1000000 in
theorem Positions_calls (I base L : Nat) (bl : List Blk) (s : ISt) (w : World) (h : Itr w I base L bl s) (hpl : (posF s).length ≤ 1048576) :
    Calls Try.prog 22 #[.pointer (some ⟨I, 0, none⟩)] w fun e w' => ∃ v, e = .returned v ∧ Lx .i64 3 w' w.heap.size v (posF s) ∧ Below w.heap.size w w' := by
  have HH := Aside0.mk (here_calls I base L bl s w h)
  have HI := Aside0.mk h
  obtain ⟨vp, h1, h2⟩ := h.v
  obtain ⟨A, c, rfl, hc, hC⟩ := h2.reads
  have hm := Kd.C_max hC
  have HC := Aside0.mk hC
  have hc0 := blk_cell h1 0
  have hc1 := blk_cell h1 1
  obtain ⟨d, hd⟩ : ∃ d, posF s = d := ⟨_, rfl⟩
  rw [hd] at hpl ⊢
  by_cases hh : s.here
  · have hd2 : d = s.post.f1 := by rw [← hd]; unfold posF; rw [if_pos hh]
    rw [decide_eq_true hh] at HH
    obtain ⟨h01, h02⟩ := hh
    unfold ISt.post at hd2
    obtain ⟨posts, at_, nx⟩ := s
    dsimp only at hm hc hc0 hc1 h01 h02 hd2 HC
    obtain ⟨i, rfl⟩ := Int.eq_ofNat_of_zero_le h01
    obtain ⟨ad, A1, c1, rfl, hx0, hx1, hl1, hC1⟩ := at_T58 HC.out (i : Int) (by omega) (by omega)
    rw [Int.toNat_natCast] at hx0 hx1 hd2
    have he : (rd_T58 posts (i : Int)).f1 = d := by rw [hd2]; unfold rd_T58; rw [Int.toNat_natCast]
    rw [he] at hx1 hl1 hC1
    have HC1 := Aside0.mk hC1
    clear h h1 h2 hC hd hd2 he hC1 hx0
    go_enter Try.func22, Try.ntmps22
    go_upto_region 3 with (go_at_call 57; ((with_reducible refine HH.out.mono ?_)); rintro e w1 ⟨rfl, hdr⟩; obtain ⟨kd, rfl⟩ := hdr.out)
    have hb1 := pw_below_drewN (Below.refl w.heap.size w) kd
    have hd0 : (w.drewN kd).drew.cell? ⟨I, 0, none⟩ = some (.slice (some ad) posts.length c) := hc0
    have hd1 : (w.drewN kd).drew.cell? ⟨I, 1, none⟩ = some (.int .i64 (i : Int)) := hc1
    have hd2 : (w.drewN kd).drew.cell? ⟨(ad.add (i * 2)).block, (ad.add (i * 2)).off + 1, none⟩ = some (.slice A1 d.length c1) := hx1
    go_region_held3 (fun w' => w'.cell? ⟨I, 0, none⟩ = some (.slice (some ad) posts.length c) ∧ w'.cell? ⟨I, 1, none⟩ = some (.int .i64 (i : Int)) ∧ w'.cell? ⟨(ad.add (i * 2)).block, (ad.add (i * 2)).off + 1, none⟩ = some (.slice A1 d.length c1)) (first | with_reducible exact ⟨hd0, hd1, hd2⟩ | with_reducible exact ⟨he0, he1, he2⟩) (first | (go_at_call 59; ((with_reducible refine (CloneI_calls A1 d c1 _ (Kd.C_below HC1.out (pw_below_drewN (Below.refl _ _) _)) hl1 (by omega)).mono ?_)); rintro e w5 ⟨v5, rfl, ho5, hb5⟩; have hB5 : Below w.heap.size w w5 := ⟨hb5.os, hb5.tape, hb5.output, hb5.size, hb5.block⟩; have HO5 := Aside0.mk ho5; have HB5 := Aside0.mk hB5; have he0 : w5.cell? ⟨I, 0, none⟩ = some (.slice (some ad) posts.length c) := pw_cell_below hB5 hc0; have he1 : w5.cell? ⟨I, 1, none⟩ = some (.int .i64 (i : Int)) := pw_cell_below hB5 hc1; have he2 : w5.cell? ⟨(ad.add (i * 2)).block, (ad.add (i * 2)).off + 1, none⟩ = some (.slice A1 d.length c1) := pw_cell_below hB5 hx1; clear ho5 hb5 hB5))
    go_wp2
    go_ret
    exact ⟨_, rfl, HO5.out, HB5.out⟩
  · have hd2 : d = [] := by rw [← hd]; unfold posF; rw [if_neg hh]
    rw [decide_eq_false hh] at HH
    subst hd2
    clear h h1 h2 hC hd hh
    go_enter Try.func22, Try.ntmps22
    go_wp2_with (go_at_call 57; ((with_reducible refine HH.out.mono ?_)); rintro e w1 ⟨rfl, hdr⟩; obtain ⟨kd, rfl⟩ := hdr.out)
    go_ret
    exact ⟨_, rfl, Lx.nil _ _ _ _, pw_below_drewN (Below.refl _ _) kd⟩
end Go.Proofs.Ytimlgpfcgklddaa.P
