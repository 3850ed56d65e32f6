/-
Texts of this seat, laid together: A6.
-/
import Derived.StillTailTactics
import Derived.Test.YtimlgpfcgklddaaQA4
namespace Go.Proofs.Ytimlgpfcgklddaa.P
open Go.RowKit Go.Proofs.YtimlgpfcgklddaaW.PrintWords Go.Proofs.YtimlgpfcgklddaaW.PrintLast Go.Proofs.YtimlgpfcgklddaaW.PrintMore
theorem min2_mn (k k' : IntKind) (x y : Int) : Builtin.min2 (.int k x) (.int k' y) = pure (.int k (mn x y)) := min2_int k k' x y
attribute [local go_sem] min2_mn min_two
set_option linter.unusedVariables false
set_option linter.unusedSimpArgs false
theorem ret_int {k : IntKind} {a b : Int} (h : a = b) : Ending.returned (.int k a) = .returned (.int k b) := by rw [h]
set_option maxHeartbeats 400000 in
theorem size_calls (a b : Nat) (w : World) (h : a * b + 7 ≤ 9223372036854775807) :
    Calls Try.prog 110 #[.int .i64 a, .int .i64 b] w fun e w' => e = .returned (.int .i64 ((a * b + 7) / 8 : Nat)) ∧ w = w' := by
  have h2 : wrap64 ((a : Int) * b) = ((a * b : Nat) : Int) := by
    unfold wrap64
    have : ((a : Int) * b) = ((a * b : Nat) : Int) := by push_cast; rfl
    omega
  go_enter Try.func110, Try.ntmps110
  go_wp2
  go_ret
  exact ⟨ret_int (by push_cast; rfl), rfl⟩

set_option maxHeartbeats 2000000 in
set_option maxRecDepth 100000 in
theorem Bits_calls (A : Option Addr) (l : List Int) (c : Nat) (wd : Nat) (w : World) (h : (Kd.int .u64).C w A l.length l) (hc : l.length ≤ c) (hw0 : 1 ≤ wd) (hw1 : wd ≤ 64) (hl : l.length ≤ 1048576) (hr : ∀ x ∈ l, 0 ≤ x ∧ x.toNat < 2 ^ wd) :
    Calls Try.prog 105 #[.slice A l.length c, .int .i64 wd] w fun e w' => ∃ v, e = .returned v ∧ (Kd.int .u8).R 5 w' w.heap.size (fun _ => True) v (leB ((wd * l.length + 7) / 8) (packN wd l)) ∧ Below w.heap.size w w' := by
  have H := Aside0.mk h
  have HR := Aside0.mk hr
  clear h hr
  have hmul : wd * l.length ≤ 64 * l.length := Nat.mul_le_mul_right _ hw1
  go_enter Try.func105, Try.ntmps105
  go_wp2_with (first | (go_at_call 110; ((with_reducible refine (size_calls wd l.length _ (by omega)).mono ?_)); rintro e w1 ⟨rfl, rfl⟩) | ((with_reducible refine gate_dst (N := 22) rfl ?_); refine Kd.R_make (Kd.int .u8) (w0 := w) w.heap.size 5 rfl (N := 22) rfl 25 _ _ rfl (((wd * l.length + 7) / 8 : Nat) : Int) rfl rfl Try.underlying25 (.int .u8 0) 1 info5 rfl (by decide) (by omega) 0 (ok := fun _ => True) (okp := fun _ => True) rfl (fun _ hk => hk) trivial (by omega) (by omega) (Below.refl _ _) (Nat.le_refl _) ?_; intro v1 w1 ho hb hg_ hnew_; clear hg_ hnew_; obtain ⟨A1, c1, rfl⟩ := Kd.R_slice ho; have HO := Aside0.mk ho; have HB := Aside0.mk hb; clear ho hb))
  obtain ⟨m, hm⟩ : ∃ m, (wd * l.length + 7) / 8 = m := ⟨_, rfl⟩
  have HM := Aside0.mk hm
  have HO : Aside0 ((Kd.int .u8).R 5 w1 w.heap.size (fun _ => True) (.slice A1 ((wd * l.length + 7) / 8) c1) (leB m 0)) := ⟨by have := HO.out; rw [Int.toNat_natCast, hm, ← leB_zero] at this; rw [hm]; rw [leB_length] at this; exact this⟩
  rw [hm] at HO ⊢
  clear hm
  go_loopg [6, 25] l.length (fun kq v6 v25 w' => ∃ i : Nat, v25 = .int .i64 i ∧ Aside0 (i ≤ l.length) ∧ v6 = .int .i64 ((wd * i : Nat) : Int) ∧ Aside0 ((Kd.int .u8).R 5 w' w.heap.size (fun _ => True) (.slice A1 m c1) (leB m (packN wd (l.take i)))) ∧ Aside0 (Below w.heap.size w w') ∧ Aside0 (l.length - i ≤ kq))
  case atStart => exact ⟨0, rfl, ⟨Nat.zero_le _⟩, by simp, HO, HB, ⟨Nat.le_refl _⟩⟩
  case round =>
    clear HO HB
    obtain ⟨i, rfl, hi, rfl, HO, HB, HK⟩ := hrel
    by_cases hlt : i < l.length
    · obtain ⟨b, hb⟩ : ∃ b, wd * i = b := ⟨_, rfl⟩
      rw [hb]
      have hbm : b + wd ≤ 8 * m := by
        have h1 : wd * (i + 1) ≤ wd * l.length := Nat.mul_le_mul_left _ hlt
        rw [Nat.mul_succ] at h1
        have := HM.out
        omega
      have hm64 : m ≤ 8388608 := by have := HM.out; omega
      have HBb := Aside0.mk hb
      clear hb
      obtain ⟨g, cap, he, hgb, hgl, cells, hgc⟩ := Kd.R_form HO.out (by rw [leB_length]; omega)
      injection he with he1 he2 he3
      subst he1
      subst he3
      have HG := Aside0.mk hgc
      clear hgc he2
      obtain ⟨ad, rfl, hx⟩ := Kd.at_int (Kd.C_below H.out HB.out) (i : Int) (by omega) (by omega)
      rw [Int.toNat_natCast] at hx
      obtain ⟨x, hx_⟩ : ∃ x, rd l i = x := ⟨_, rfl⟩
      rw [hx_] at hx
      have HX := Aside0.mk hx_
      clear hx_
      obtain ⟨x0, x1⟩ : 0 ≤ x ∧ x.toNat < 2 ^ wd := by
        have := HR.out (l.getD i 0) (by rw [List.getD_eq_getElem?_getD, List.getElem?_eq_getElem hlt]; exact List.getElem_mem hlt)
        rw [← HX.out]
        exact this
      have HX1 := Aside0.mk x1
      clear x1
      obtain ⟨P, hP⟩ : ∃ P, packN wd (l.take i) = P := ⟨_, rfl⟩
      have HPl : Aside0 (P < 2 ^ b) := ⟨by
        have := packN_lt wd (l.take i) (fun y hy => (HR.out y (List.mem_of_mem_take hy)).2)
        rw [List.length_take, Nat.min_eq_left (by omega), HBb.out, hP] at this
        exact this⟩
      rw [hP] at HO
      have HP := Aside0.mk hP
      clear hP
      have hM := Kd.C_max H.out
      go_wp2
      go_loopg [6, 9] wd (fun kq v6 v9 w' => ∃ k a : Nat, v9 = .int .i64 k ∧ Aside0 (k ≤ wd) ∧ v6 = .int .i64 a ∧ Aside0 (b + k = a) ∧ Aside0 ((Kd.int .u8).R 5 w' w.heap.size (fun _ => True) (.slice (some ⟨g, 0, none⟩) m c1) (leB m (P + x.toNat % 2 ^ k * 2 ^ b))) ∧ Aside0 (Below w.heap.size w w') ∧ Aside0 (wd - k ≤ kq))
      case atStart => exact ⟨0, b, rfl, ⟨Nat.zero_le _⟩, rfl, ⟨rfl⟩, ⟨by have := HO.out; simpa [Nat.mod_one] using this⟩, HB, ⟨Nat.le_refl _⟩⟩
      case round =>
        clear HO HB HG
        obtain ⟨k, a, rfl, hk, rfl, HA, HO, HB, HKk⟩ := hrel
        have hba : b + k ≤ a := by have := HA.out; omega
        have hab : a ≤ b + k := by have := HA.out; omega
        by_cases hkl : k < wd
        · obtain ⟨t, ht⟩ : ∃ t : Nat, min (8 - a % 8) (wd - k) = t := ⟨_, rfl⟩
          have ht1 : 1 ≤ t := by omega
          have ht2 : a % 8 + t ≤ 8 := by omega
          have ht3 : k + t ≤ wd := by omega
          have HT := Aside0.mk ht
          clear ht
          have hq : a / 8 < m := by omega
          obtain ⟨hcell, hfroz⟩ := Kd.R_celln (0 : Int) HO.out ((a / 8 : Nat) : Int) (by omega) (by omega)
          rw [Int.toNat_natCast] at hcell hfroz
          obtain ⟨y, hy⟩ : ∃ y, rdOf (0 : Int) (leB m (P + x.toNat % 2 ^ k * 2 ^ b)) ((a / 8 : Nat) : Int) = y := ⟨_, rfl⟩
          rw [hy] at hcell
          have HY := Aside0.mk hy
          clear hy
          go_wp2_with fail
          rw [show mn (8 - (a : Int) % 8) ((wd : Int) - k) = (t : Int) from by unfold mn; have := HT.out; split <;> omega]
          have e1 : IntKind.i64.wrap ((a : Int) / 8) = ((a / 8 : Nat) : Int) := by
            rw [IntKind.wrap_i64]
            omega
          have e2 : (a : Int).tmod 8 = (a : Int) % 8 := Int.tmod_eq_emod_of_nonneg (by omega)
          have i1 : 0 ≤ (a : Int) / 8 := by omega
          have i2 : (a : Int) / 8 < (m : Int) := by omega
          have i3 : ((a : Int) / 8).toNat = a / 8 := by omega
          have i4 : 0 ≤ (a : Int) % 8 := by omega
          have i5 : 0 ≤ (t : Int) := by omega
          refine wp_region_still_tail 18 (by kernel_rfl) (by kernel_rfl) ?_
          simp only [List.take_succ_cons, List.take_zero, List.drop_succ_cons, List.drop_zero]
          repeat still_step
          refine wpStill_nil ?_
          go_wp2
          go_roundg (wd - (k + t))
          case measure => have := HKk.out; omega
          case rel =>
            have hbk : b + k = a := HA.out
            obtain ⟨hr1, hr2⟩ := bits_round m P x.toNat b k t HPl.out (by rw [hbk]; exact ht2) (by rw [hbk]; exact hq)
            rw [hbk] at hr1 hr2
            have hy : y = (((P + x.toNat % 2 ^ k * 2 ^ b) / 256 ^ (a / 8) % 256 : Nat) : Int) := by
              rw [← HY.out, rdOf, Int.toNat_natCast, leB_rd _ _ _ hq]
            have hx64 : x < 18446744073709551616 := by
              have h1 := HX1.out
              have h2 : 2 ^ wd ≤ 2 ^ 64 := Nat.pow_le_pow_right (by decide) hw1
              omega
            have hv := stored_u8 x k (a % 8) t ((P + x.toNat % 2 ^ k * 2 ^ b) / 256 ^ (a / 8) % 256) x0 hx64 hr2 ht2
            rw [← hy] at hv
            rw [hv]
            have hput := Kd.R_putn HO.out ((a / 8 : Nat) : Int) (((P + x.toNat % 2 ^ k * 2 ^ b) / 256 ^ (a / 8) % 256 + x.toNat / 2 ^ k % 2 ^ t * 2 ^ (a % 8) : Nat) : Int)
            rw [Int.toNat_natCast, ← hr1] at hput
            exact ⟨k + t, a + t, by simp, ⟨ht3⟩, by simp, ⟨by omega⟩, ⟨Kd.R_drew hput⟩, ⟨below_drew (HB.out.setCell hgb _)⟩, ⟨Nat.le_refl _⟩⟩
        · have e : k = wd := by have := hk.out; omega
          have hge : wd ≤ k := by omega
          have HO2 : Aside0 ((Kd.int .u8).R 5 wr w.heap.size (fun _ => True) (.slice (some ⟨g, 0, none⟩) m c1) (leB m (packN wd (l.take (i + 1))))) := ⟨by
            have := HO.out
            rw [take_rd l i hlt, packN_snoc, HP.out, List.length_take, Nat.min_eq_left (by omega), HBb.out]
            rw [e, Nat.mod_eq_of_lt HX1.out, ← HX.out] at this
            exact this⟩
          clear hkl e HO
          go_wp2
          go_roundg (l.length - (i + 1))
          case measure => have := HK.out; omega
          case rel => exact ⟨i + 1, by first | rfl | (simp; done), ⟨hlt⟩, by have := HBb.out; have := HA.out; have := hk.out; rw [Nat.mul_succ]; first | (congr 1; omega) | (simp; omega), HO2, HB, ⟨Nat.le_refl _⟩⟩
    · have e : i = l.length := by have := hi.out; omega
      have hge : l.length ≤ i := by omega
      have HO2 : Aside0 ((Kd.int .u8).R 5 wr w.heap.size (fun _ => True) (.slice A1 m c1) (leB m (packN wd l))) := ⟨by have := HO.out; rw [e, List.take_length] at this; exact this⟩
      clear hlt e HO
      go_wp2
      go_ret
      exact ⟨_, rfl, by rw [HM.out]; exact HO2.out, HB.out⟩
end Go.Proofs.Ytimlgpfcgklddaa.P
