/-
Texts of this seat, laid together: C6, C7.
-/
import Derived.WalkMore
import Derived.Test.YtimlgpfcgklddaaQO2
namespace Go.Proofs.Ytimlgpfcgklddaa.P
open Go.RowKit Go.Shelf Go.Proofs.YtimlgpfcgklddaaW.PrintWords Go.Proofs.YtimlgpfcgklddaaW.PrintLast Go.Proofs.YtimlgpfcgklddaaW.PrintMore
attribute [local go_sem] min2_mn min_two
set_option linter.unusedVariables false
set_option linter.unusedSimpArgs false
theorem unbitsL_length (N wd n : Nat) : (unbitsL N wd n).length = n := by simp [unbitsL]
theorem unbitsL_succ (N wd i : Nat) : unbitsL N wd (i + 1) = unbitsL N wd i ++ [((N / 2 ^ (wd * i) % 2 ^ wd : Nat) : Int)] := by
  unfold unbitsL
  rw [List.range_succ, List.map_append]
  rfl
theorem stored_u64 (X y k r t : Nat) (hX : X < 256) (ht : t ≤ 8) (hy : y < 2 ^ k) (hk : k + t ≤ 64) : bits .or .u64 (y : Int) (IntKind.u64.wrap (IntKind.u64.wrap (bits .and .u8 ((X : Int) / 2 ^ r) ((2 ^ t - 1) % 256)) * 2 ^ k)) = ((y + X / 2 ^ r % 2 ^ t * 2 ^ k : Nat) : Int) := by
  have e1 : ((X : Int) / 2 ^ r) = ((X / 2 ^ r : Nat) : Int) := by push_cast; rfl
  have hle : X / 2 ^ r ≤ X := Nat.div_le_self _ _
  rw [e1]
  generalize X / 2 ^ r = Z at hle ⊢
  obtain ⟨p1, p2⟩ := pow_le8 ht
  have e2 : ((2 : Int) ^ t - 1) % 256 = 2 ^ t - 1 := by
    have e : ((2 : Int) ^ t) = ((2 ^ t : Nat) : Int) := by push_cast; rfl
    rw [e]
    omega
  rw [e2, bits_mask .u8 8 (by decide) wraps_u8 t ht (Z : Int) (by omega) (by omega)]
  have e3 : ((Z : Int) % 2 ^ t) = ((Z % 2 ^ t : Nat) : Int) := by push_cast; rfl
  have hc : Z % 2 ^ t < 2 ^ t := Nat.mod_lt _ (Nat.pow_pos (by decide))
  rw [e3]
  generalize Z % 2 ^ t = c at hc ⊢
  have e4 : IntKind.u64.wrap (c : Int) = (c : Int) := by rw [wrap_u64]; omega
  have h1 : (c + 1) * 2 ^ k ≤ 2 ^ t * 2 ^ k := Nat.mul_le_mul_right _ hc
  rw [← Nat.pow_add, Nat.add_mul, Nat.one_mul] at h1
  have h2 : 2 ^ (t + k) ≤ 2 ^ 64 := Nat.pow_le_pow_right (by decide) (by omega)
  have h3 : 0 < 2 ^ k := Nat.pow_pos (by decide)
  have e5 : ((c : Int) * 2 ^ k) = ((c * 2 ^ k : Nat) : Int) := by push_cast; rfl
  have h4 := or_group (n := (y : Int)) (g := (c : Int)) (k := k) (by omega) (by omega) (by exact_mod_cast hy) (by omega) (by rw [e5]; omega)
  rw [e4, h4, e5]
  push_cast
  rfl
def rowAt (N wd n i : Nat) : List Int := unbitsL N wd i ++ List.replicate (n - i) 0
def rowMid (N wd n i b k : Nat) : List Int := unbitsL N wd i ++ ((N / 2 ^ b % 2 ^ k : Nat) : Int) :: List.replicate (n - (i + 1)) 0
theorem rowAt_length (N wd n i : Nat) (h : i ≤ n) : (rowAt N wd n i).length = n := by unfold rowAt; rw [List.length_append, unbitsL_length, List.length_replicate]; omega
theorem rowAt_zero (N wd n : Nat) : rowAt N wd n 0 = List.replicate n 0 := by unfold rowAt unbitsL; simp
theorem rowAt_full (N wd n : Nat) : rowAt N wd n n = unbitsL N wd n := by unfold rowAt; simp
theorem rowMid_start (N wd n i b : Nat) (h : i < n) : rowAt N wd n i = rowMid N wd n i b 0 := by
  unfold rowAt rowMid
  rw [show n - i = (n - (i + 1)) + 1 from by omega, List.replicate_succ, Nat.pow_zero, Nat.mod_one]
  rfl
theorem rowMid_end (N wd n i : Nat) (h : i < n) : rowMid N wd n i (wd * i) wd = rowAt N wd n (i + 1) := by
  unfold rowAt rowMid
  rw [unbitsL_succ, List.append_assoc]
  rfl
theorem rowMid_set (N wd n i b k : Nat) (h : i < n) (v : Int) : (rowMid N wd n i b k).set i v = unbitsL N wd i ++ v :: List.replicate (n - (i + 1)) 0 := by
  unfold rowMid
  rw [List.set_append_right _ _ (by rw [unbitsL_length]; exact Nat.le_refl _), unbitsL_length, Nat.sub_self]
  rfl
theorem rowMid_get (N wd n i b k : Nat) (h : i < n) : rdOf (0 : Int) (rowMid N wd n i b k) (i : Int) = ((N / 2 ^ b % 2 ^ k : Nat) : Int) := by
  unfold rdOf rowMid
  rw [Int.toNat_natCast, List.getD_eq_getElem?_getD, List.getElem?_append_right (by rw [unbitsL_length]; exact Nat.le_refl _), unbitsL_length, Nat.sub_self]
  rfl
set_option maxHeartbeats 4000000 in
set_option maxRecDepth 100000 in
theorem Unbits_calls (A : Option Addr) (bs : List Int) (c : Nat) (wd n : Nat) (w : World) (h : (Kd.int .u8).C w A bs.length bs) (hc : bs.length ≤ c) (hw1 : wd ≤ 64) (hn : n ≤ 1048576) (hr : ∀ x ∈ bs, 0 ≤ x ∧ x < 256) (hl : bs.length = (wd * n + 7) / 8) :
    Calls Try.prog 109 #[.slice A bs.length c, .int .i64 wd, .int .i64 n] w fun e w' => (leVal bs / 2 ^ (wd * n) ≠ 0 ∧ e = .returned (.tuple #[.slice none 0 0, .int .i64 20]) ∨ leVal bs / 2 ^ (wd * n) = 0 ∧ ∃ v, e = .returned (.tuple #[v, .int .i64 0]) ∧ (Kd.int .u64).R 78 w' w.heap.size (fun _ => True) v (unbitsL (leVal bs) wd n)) ∧ Below w.heap.size w w' := by
  have H := Aside0.mk h
  have HR := Aside0.mk hr
  clear h hr
  have hmul : wd * n ≤ 64 * n := Nat.mul_le_mul_right _ hw1
  obtain ⟨m, hm⟩ : ∃ m, (wd * n + 7) / 8 = m := ⟨_, rfl⟩
  have HM := Aside0.mk hm
  have HL := Aside0.mk hl
  have hbm : bs.length = m := by omega
  obtain ⟨N, hN⟩ : ∃ N, leVal bs = N := ⟨_, rfl⟩
  have HN : Aside0 (leB m N = bs) := ⟨by rw [← hN, ← hbm]; exact leVal_leB bs HR.out⟩
  have HNN := Aside0.mk hN
  rw [hN]
  clear hN
  go_enter Try.func109, Try.ntmps109
  go_wp2
  go_step3
  go_wp2_with (first | (go_at_call 110; ((with_reducible refine (size_calls wd n _ (by omega)).mono ?_)); rintro e w1 ⟨rfl, rfl⟩) | ((with_reducible refine gate_dst (N := 36) rfl ?_); refine Kd.R_make (Kd.int .u64) (w0 := w) w.heap.size 78 rfl (N := 36) rfl 151 _ _ rfl (n : Int) rfl rfl Try.underlying151 (.int .u64 0) 8 info78 rfl (by decide) (by omega) 0 (ok := fun _ => True) (okp := fun _ => True) rfl (fun _ hk => hk) trivial (by omega) (by omega) (Below.refl _ _) (Nat.le_refl _) ?_; intro v1 w1 ho hb hg_ hnew_; clear hg_ hnew_; obtain ⟨A1, c1, rfl⟩ := Kd.R_slice ho; have HO := Aside0.mk ho; have HB := Aside0.mk hb; clear ho hb))
  have HO : Aside0 ((Kd.int .u64).R 78 w1 w.heap.size (fun _ => True) (.slice A1 n c1) (rowAt N wd n 0)) := ⟨by have := HO.out; rw [rowAt_zero]; simpa using this⟩
  go_step3
  go_wp2
  go_loopg [9, 39] n (fun kq v9 v39 w' => ∃ i : Nat, v39 = .int .i64 i ∧ Aside0 (i ≤ n) ∧ v9 = .int .i64 ((wd * i : Nat) : Int) ∧ Aside0 ((Kd.int .u64).R 78 w' w.heap.size (fun _ => True) (.slice A1 n c1) (rowAt N wd n i)) ∧ Aside0 (Below w.heap.size w w') ∧ Aside0 (n - i ≤ kq))
  case atStart => exact ⟨0, rfl, ⟨Nat.zero_le _⟩, by simp, HO, HB, ⟨Nat.le_refl _⟩⟩
  case round =>
    clear HO HB
    obtain ⟨i, rfl, hi, rfl, HO, HB, HK⟩ := hrel
    by_cases hlt : i < n
    · obtain ⟨b, hb⟩ : ∃ b, wd * i = b := ⟨_, rfl⟩
      rw [hb]
      have hbm2 : b + wd ≤ 8 * m := by
        have h1 : wd * (i + 1) ≤ wd * n := Nat.mul_le_mul_left _ hlt
        rw [Nat.mul_succ] at h1
        have := HM.out
        omega
      have hm64 : m ≤ 8388608 := by have := HM.out; omega
      have HBb := Aside0.mk hb
      clear hb
      obtain ⟨g, cap, he, hgb, hgl, cells, hgc⟩ := Kd.R_form HO.out (by rw [rowAt_length _ _ _ _ (by omega)]; omega)
      injection he with he1 he2 he3
      subst he1
      subst he3
      clear hgc he2
      go_wp2
      go_loopg [9, 11] wd (fun kq v9 v11 w' => ∃ k a : Nat, v11 = .int .i64 k ∧ Aside0 (k ≤ wd) ∧ v9 = .int .i64 a ∧ Aside0 (b + k = a) ∧ Aside0 ((Kd.int .u64).R 78 w' w.heap.size (fun _ => True) (.slice (some ⟨g, 0, none⟩) n c1) (rowMid N wd n i b k)) ∧ Aside0 (Below w.heap.size w w') ∧ Aside0 (wd - k ≤ kq))
      case atStart => exact ⟨0, b, rfl, ⟨Nat.zero_le _⟩, rfl, ⟨rfl⟩, ⟨by have := HO.out; rwa [rowMid_start N wd n i b hlt] at this⟩, HB, ⟨Nat.le_refl _⟩⟩
      case round =>
        clear HO HB
        obtain ⟨k, a, rfl, hk, rfl, HA, HO, HB, HKk⟩ := hrel
        have hba : b + k ≤ a := by have := HA.out; omega
        have hab : a ≤ b + k := by have := HA.out; omega
        by_cases hkl : k < wd
        · obtain ⟨t, ht⟩ : ∃ t : Nat, min (8 - a % 8) (wd - k) = t := ⟨_, rfl⟩
          have ht1 : 1 ≤ t := by omega
          have ht2 : a % 8 + t ≤ 8 := by omega
          have ht3 : k + t ≤ wd := by omega
          have HT := Aside0.mk ht
          clear ht
          have hq : a / 8 < m := by omega
          obtain ⟨ad, rfl, hx⟩ := Kd.at_int (Kd.C_below H.out HB.out) ((a / 8 : Nat) : Int) (by omega) (by omega)
          rw [Int.toNat_natCast] at hx
          obtain ⟨x, hx_⟩ : ∃ x, rd bs ((a / 8 : Nat) : Int) = x := ⟨_, rfl⟩
          rw [hx_] at hx
          have HX := Aside0.mk hx_
          clear hx_
          obtain ⟨hcell, hfroz⟩ := Kd.R_celln (0 : Int) HO.out (i : Int) (by omega) (by omega)
          rw [rowMid_get _ _ _ _ _ _ hlt, Int.toNat_natCast] at hcell
          rw [Int.toNat_natCast] at hfroz
          obtain ⟨y, hy⟩ : ∃ y : Int, ((N / 2 ^ b % 2 ^ k : Nat) : Int) = y := ⟨_, rfl⟩
          rw [hy] at hcell
          have HY := Aside0.mk hy
          clear hy
          go_wp2_with fail
          rw [show mn (8 - (a : Int) % 8) ((wd : Int) - k) = (t : Int) from by unfold mn; have := HT.out; split <;> omega]
          have e1 : IntKind.i64.wrap ((a : Int) / 8) = ((a / 8 : Nat) : Int) := by
            rw [IntKind.wrap_i64]
            omega
          have e2 : (a : Int).tmod 8 = (a : Int) % 8 := Int.tmod_eq_emod_of_nonneg (by omega)
          have i1 : 0 ≤ (a : Int) / 8 := by omega
          have i2 : (a : Int) / 8 < (m : Int) := by omega
          have i3 : ((a : Int) / 8).toNat = a / 8 := by omega
          have i4 : 0 ≤ (a : Int) % 8 := by omega
          have i5 : 0 ≤ (t : Int) := by omega
          refine wp_region_still_tail 21 (by kernel_rfl) (by kernel_rfl) ?_
          simp only [List.take_succ_cons, List.take_zero, List.drop_succ_cons, List.drop_zero]
          repeat still_step
          refine wpStill_nil ?_
          go_wp2
          go_roundg (wd - (k + t))
          case measure => have := HKk.out; omega
          case rel =>
            have hbk : b + k = a := HA.out
            have hxv : x = ((N / 256 ^ (a / 8) % 256 : Nat) : Int) := by
              rw [← HX.out, ← HN.out, rd, Int.toNat_natCast, leB_rd _ _ _ hq]
            have hv := stored_u64 (N / 256 ^ (a / 8) % 256) (N / 2 ^ b % 2 ^ k) k (a % 8) t (Nat.mod_lt _ (by decide)) (by omega) (Nat.mod_lt _ (Nat.pow_pos (by decide))) (by omega)
            rw [piece N a t ht2, ← hxv, HY.out, ← hbk, ← join] at hv
            rw [hbk] at hv
            rw [hv]
            have hput := Kd.R_putn HO.out (i : Int) ((N / 2 ^ b % 2 ^ (k + t) : Nat) : Int)
            rw [Int.toNat_natCast, rowMid_set _ _ _ _ _ _ hlt] at hput
            exact ⟨k + t, a + t, by simp, ⟨ht3⟩, by simp, ⟨by omega⟩, ⟨Kd.R_drew hput⟩, ⟨below_drew (HB.out.setCell hgb _)⟩, ⟨Nat.le_refl _⟩⟩
        · have e : k = wd := by have := hk.out; omega
          have HO2 : Aside0 ((Kd.int .u64).R 78 wr w.heap.size (fun _ => True) (.slice (some ⟨g, 0, none⟩) n c1) (rowAt N wd n (i + 1))) := ⟨by
            have := HO.out
            rw [e, ← HBb.out, rowMid_end N wd n i hlt] at this
            exact this⟩
          have hkw : (k : Int) = (wd : Int) := by omega
          have HKW := Aside0.mk e
          clear hkl e HO
          go_wp2
          go_roundg (n - (i + 1))
          case measure => have := HK.out; omega
          case rel => exact ⟨i + 1, by first | rfl | (simp; done), ⟨hlt⟩, by have := HBb.out; have := HA.out; have := HKW.out; rw [Nat.mul_succ]; first | (congr 1; omega) | (simp; omega), HO2, HB, ⟨Nat.le_refl _⟩⟩
    · have e : i = n := by have := hi.out; omega
      have HO2 : Aside0 ((Kd.int .u64).R 78 wr w.heap.size (fun _ => True) (.slice A1 n c1) (unbitsL N wd n)) := ⟨by have := HO.out; rw [e, rowAt_full] at this; exact this⟩
      have hge : n ≤ i := by omega
      obtain ⟨a, ha⟩ : ∃ a, wd * i = a := ⟨_, rfl⟩
      rw [ha]
      rw [e] at ha
      have HAA := Aside0.mk ha
      have hma : (a + 7) / 8 = m := by rw [← ha]; exact hm
      clear hlt e HO
      by_cases h8 : 0 < a % 8
      · have hq : a / 8 < m := by omega
        obtain ⟨ad, rfl, hx⟩ := Kd.at_int (Kd.C_below H.out HB.out) ((a / 8 : Nat) : Int) (by omega) (by omega)
        rw [Int.toNat_natCast] at hx
        have hxv : rd bs ((a / 8 : Nat) : Int) = ((N / 256 ^ (a / 8) % 256 : Nat) : Int) := by
          rw [← HN.out, rd, Int.toNat_natCast, leB_rd _ _ _ hq]
        rw [hxv] at hx
        have e2 : (a : Int).tmod 8 = (a : Int) % 8 := Int.tmod_eq_emod_of_nonneg (by omega)
        have e1 : IntKind.i64.wrap ((a : Int) / 8) = ((a / 8 : Nat) : Int) := by
          rw [IntKind.wrap_i64]
          omega
        have i3 : ((a : Int) / 8).toNat = a / 8 := by omega
        have i1 : 0 ≤ (a : Int) / 8 := by omega
        have i2 : (a : Int) / 8 < (m : Int) := by omega
        have i4 : 0 ≤ (a : Int) % 8 := by omega
        have i5 : 0 < (a : Int) % 8 := by omega
        have ht0 := tail_piece (bs := bs) (a := a) HR.out (by rw [HL.out, HAA.out]) h8
        rw [HNN.out] at ht0
        obtain ⟨T, hT⟩ : ∃ T, N / 2 ^ a = T := ⟨_, rfl⟩
        have hTT : N / 2 ^ (wd * n) = T := by rw [HAA.out]; exact hT
        rw [hT] at ht0
        obtain ⟨X, hX⟩ : ∃ X, N / 256 ^ (a / 8) % 256 = X := ⟨_, rfl⟩
        rw [hX] at hx ht0
        have hE : ((X : Int) / 2 ^ (a % 8)) = (T : Int) := by rw [← ht0]; push_cast; rfl
        have HT := Aside0.mk hTT
        clear hX hT ht0 hTT hxv
        by_cases hT0 : T = 0
        · have hT1 : (T : Int) = 0 := by omega
          go_wp2
          rw [Exit.noGoto_ret]
          go_ret2
          exact ⟨.inr ⟨by rw [HT.out]; exact hT0, _, rfl, HO2.out⟩, HB.out⟩
        · have hT1 : ¬ (T : Int) = 0 := by omega
          go_wp2
          rw [Exit.noGoto_ret]
          go_ret2
          exact ⟨.inl ⟨by rw [HT.out]; exact hT0, rfl⟩, HB.out⟩
      · have h80 : a % 8 = 0 := by omega
        have e2 : (a : Int).tmod 8 = 0 := by rw [Int.tmod_eq_emod_of_nonneg (by omega)]; omega
        have hz : N / 2 ^ (wd * n) = 0 := by rw [HAA.out, ← HNN.out]; exact tail_none HR.out (by rw [HL.out, HAA.out]) h80
        clear HR
        go_wp2
        rw [Exit.noGoto_ret]
        go_ret2
        exact ⟨.inr ⟨hz, _, rfl, HO2.out⟩, HB.out⟩
open Go.RowKit Go.Proofs.YtimlgpfcgklddaaW.PrintWords Go.Proofs.YtimlgpfcgklddaaW.PrintLast Go.Proofs.YtimlgpfcgklddaaW.PrintMore
set_option maxHeartbeats 1000000 in
theorem MinU_calls (A : Option Addr) (l : List Int) (c : Nat) (w : World) (h : (Kd.int .u64).C w A l.length l) (hc : l.length ≤ c) (hn : 1 ≤ l.length) :
    Calls Try.prog 111 #[.slice A l.length c] w fun e w' => e = .returned (.int .u64 (minI l)) ∧ w = w' := by
  have H := Aside0.mk h
  have hm := Kd.C_max h
  have HM := Aside0.mk (Kd.C_max h)
  obtain ⟨ad, rfl, hx0⟩ := Kd.at_int h 0 (by omega) (by omega)
  have hx : w.cell? ad = some (.int .u64 (rd l 0)) := hx0
  clear h hx0
  have HN := Aside0.mk hn
  have hb : decide (l.length < 1) = false := decide_eq_false (by omega)
  have hb2 : decide (0 < l.length) = true := decide_eq_true (by omega)
  go_enter Try.func111, Try.ntmps111
  go_wp2
  go_loopg [3, 4] l.length (fun kq v3 v4 w' => ∃ k : Nat, v4 = .int .i64 k ∧ Aside0 (1 ≤ k ∧ k ≤ l.length) ∧ v3 = .int .u64 (minI (l.take k)) ∧ Aside0 (l.length - k ≤ kq) ∧ w = w')
  case atStart => exact ⟨1, by first | rfl | (simp; done), ⟨by omega, hn⟩, by
    cases l with
    | nil => simp at hn
    | cons y r => rfl, ⟨by omega⟩, rfl⟩
  case round =>
    clear hx hb hb2
    obtain ⟨k, rfl, hk, rfl, HK, rfl⟩ := hrel
    obtain ⟨s, hs⟩ : ∃ s, minI (l.take k) = s := ⟨_, rfl⟩
    rw [hs]
    have HS := Aside0.mk hs
    clear hs
    by_cases hlt : k < l.length
    · obtain ⟨ad', e', hx⟩ := Kd.at_int H.out (k : Int) (by omega) (by omega)
      cases e'
      rw [Int.toNat_natCast] at hx
      have HT := Aside0.mk (take_rd l k hlt)
      go_wp2
      go_roundg (l.length - (k + 1))
      case measure => have := HK.out; omega
      case rel =>
        refine ⟨k + 1, by first | rfl | (simp; done), ⟨by omega, hlt⟩, ?_, ⟨Nat.le_refl _⟩, rfl⟩
        rw [HT.out, minI_snoc _ (by intro e0; have h1 := congrArg List.length e0; rw [List.length_take, List.length_nil] at h1; have := hk.out; omega), HS.out]
        rfl
    · have e : k = l.length := by have := hk.out; omega
      have HS2 := Aside0.mk (show minI l = s by rw [← HS.out, e, List.take_length])
      have hge : l.length ≤ k := by omega
      clear hlt e
      go_wp2
      go_ret
      exact ⟨by rw [HS2.out]; rfl, rfl⟩
set_option maxHeartbeats 1000000 in
theorem ClipI_calls (A : Option Addr) (n c : Nat) (w : World) (hn : n ≤ c) (hm : n ≤ 9223372036854775807) :
    Calls Try.prog 112 #[.slice A n c] w fun e w' => e = .returned (.slice A n n) ∧ w = w' := by
  go_enter Try.func112, Try.ntmps112
  go_wp2
  go_ret
  exact ⟨rfl, rfl⟩
end Go.Proofs.Ytimlgpfcgklddaa.P
