/-
Texts of this seat, laid together: A11, A12.
-/
import Derived.Lib.AppendZeros
import Derived.Test.YtimlgpfcgklddaaQA2
namespace Go.Proofs.Ytimlgpfcgklddaa.P
open Go.RowKit Go.Proofs.YtimlgpfcgklddaaW.PrintWords Go.Proofs.YtimlgpfcgklddaaW.PrintLast Go.Proofs.YtimlgpfcgklddaaW.PrintMore
set_option linter.unusedVariables false
set_option linter.unusedSimpArgs false
theorem grown_zeros (w : World) (z : Value) (n cap : Nat) (hz : z.cells.size = 1) (hc : n ≤ cap) (hm : cap ≤ maxLen) :
    Lx .u8 5 (w.drew.alloc (.cells (Builtin.zeroCells z.cells n ++ Builtin.zeroCells z.cells (cap - n)) 5)) w.heap.size (.slice (some ⟨w.heap.size, 0, none⟩) 0 cap) [] :=
  ⟨rfl, .inr ⟨w.heap.size, cap, _, rfl, Nat.le_refl _, heap_alloc_new w.drew _, Nat.zero_le _, hm, by
    rw [Array.size_append, size_zeroCells, size_zeroCells, hz]; omega, by simp [nums]⟩⟩
set_option maxHeartbeats 1000000 in
theorem Grow_calls (n : Nat) (w : World) (hn : n ≤ 140737488355328) :
    Calls Try.prog 101 #[.slice none 0 0, .int .i64 n] w fun e w' => ∃ v, e = .returned v ∧ Lx .u8 5 w' w.heap.size v [] ∧ Below w.heap.size w w' := by
  obtain ⟨i0, hi, hzz⟩ := Option.map_eq_some_iff.1 info5
  simp only [Prod.mk.injEq] at hzz
  obtain ⟨hz0, hz1, hz2⟩ := hzz
  have HI := Aside0.mk hi
  have HZ0 := Aside0.mk hz0
  have HZ1 := Aside0.mk hz1
  have HZ2 := Aside0.mk hz2
  clear hi hz0 hz1 hz2
  rcases Nat.eq_zero_or_pos n with rfl | hp
  · go_enter Try.func101, Try.ntmps101
    go_wp2
    go_ret
    exact ⟨_, rfl, Lx.nil _ _ _ _, Below.refl _ _⟩
  · have hr := Lib.run_append_nil_zeros (P := Try.prog) w 25 3 25 5 i0 (.int .u8 0) .i64 .i64 Try.underlying25 Try.underlying3 HI.out HZ0.out n hp (by rw [HZ1.out]; decide) (by omega) (by rw [HZ2.out]; omega)
    have HR := Aside0.mk hr
    clear hr
    have hcap : n ≤ grownCap w n 0 5 := grownCap_ge w n 0 5
    have HCM : Aside0 (grownCap w n 0 5 ≤ maxLen) := ⟨grownCap_le_maxLen w n 0 5 (by simp only [maxLen]; omega)⟩
    go_enter Try.func101, Try.ntmps101
    go_wp2_with (at_builtin; refine Lib.wpList_append_run _ rfl (.tmp 20) (.tmp 21) 25 3 rfl (.slice none 0 0) (.int .i64 n) rfl rfl _ _ HR.out ?_)
    go_ret
    exact ⟨_, rfl, grown_zeros w (.int .u8 0) n _ rfl hcap HCM.out, ((Below.refl _ _).drew).alloc (Nat.le_refl _) _⟩
def lenSum (l : List (List Int)) : Nat := (l.map List.length).sum
theorem lenSum_take (l : List (List Int)) (k : Nat) (h : k < l.length) : lenSum (l.take (k + 1)) = lenSum (l.take k) + (rd_L4 l k).length := by
  rw [List.take_succ_eq_append_getElem h]
  unfold lenSum rd_L4
  rw [Int.toNat_natCast, List.getD_eq_getElem?_getD, List.getElem?_eq_getElem h]
  simp only [List.map_append, List.map_cons, List.map_nil, List.sum_append, List.sum_cons, List.sum_nil, Nat.add_zero, Option.getD_some]
theorem lenSum_le (l : List (List Int)) (k : Nat) : lenSum (l.take k) ≤ lenSum l := by
  have h : lenSum l = lenSum (l.take k) + lenSum (l.drop k) := by
    unfold lenSum
    rw [← List.sum_append, ← List.map_append, List.take_append_drop]
  omega
theorem flat_take (l : List (List Int)) (k : Nat) (h : k < l.length) : (l.take (k + 1)).flatten = (l.take k).flatten ++ rd_L4 l k := by
  rw [List.take_succ_eq_append_getElem h]
  unfold rd_L4
  rw [Int.toNat_natCast, List.getD_eq_getElem?_getD, List.getElem?_eq_getElem h]
  simp only [List.flatten_append, List.flatten_cons, List.flatten_nil, List.append_nil, Option.getD_some]
theorem flat_len (l : List (List Int)) : l.flatten.length = lenSum l := by unfold lenSum; rw [List.length_flatten]
set_option maxHeartbeats 2000000 in
theorem Concat_calls (A : Option Addr) (l : List (List Int)) (c : Nat) (w : World) (h : (Kd.slice 5 (Kd.int .u8)).C w A l.length l) (hc : l.length ≤ c) (hl : lenSum l ≤ 140737488355328) :
    Calls Try.prog 76 #[.slice A l.length c] w fun e w' => ∃ v, e = .returned v ∧ Lx .u8 5 w' w.heap.size v l.flatten ∧ Below w.heap.size w w' := by
  have H := Aside0.mk h
  have HM := Kd.C_max h
  clear h
  go_enter Try.func76, Try.ntmps76
  go_wp2
  go_loopg [3, 11] l.length (fun kq v3 v11 w' => ∃ k s : Nat, v11 = .int .i64 k ∧ Aside0 (k ≤ l.length) ∧ v3 = .int .i64 s ∧ Aside0 (lenSum (l.take k) = s) ∧ Aside0 (l.length - k ≤ kq) ∧ w = w')
  case atStart => exact ⟨0, 0, rfl, ⟨Nat.zero_le _⟩, rfl, ⟨rfl⟩, ⟨Nat.le_refl _⟩, rfl⟩
  case round =>
    obtain ⟨k, s, rfl, hk, rfl, HS, HK, rfl⟩ := hrel
    have hsl : s ≤ 140737488355328 := by have := lenSum_le l k; have := HS.out; omega
    by_cases hlt : k < l.length
    · obtain ⟨ad, A0, c0, rfl, hx, hl0, hC0⟩ := at_L4 H.out (k : Int) (by omega) (by omega)
      rw [Int.toNat_natCast] at hx
      have HT := Aside0.mk (lenSum_take l k hlt)
      have hs2 : s + (rd_L4 l k).length ≤ 140737488355328 := by have := lenSum_le l (k + 1); have := HS.out; have := HT.out; omega
      clear hC0 hl0
      obtain ⟨r, hr⟩ : ∃ r, rd_L4 l k = r := ⟨_, rfl⟩
      rw [hr] at hx HT hs2
      clear hr
      go_wp2
      go_roundg (l.length - (k + 1))
      case measure => have := HK.out; omega
      case rel => exact ⟨k + 1, s + r.length, by first | rfl | (simp; done), ⟨hlt⟩, by first | rfl | (simp; done), ⟨by rw [HT.out, HS.out]⟩, ⟨Nat.le_refl _⟩, rfl⟩
    · have e : k = l.length := by have := hk.out; omega
      have hge : l.length ≤ k := by omega
      have HS2 : Aside0 (lenSum l = s) := ⟨by have := HS.out; rw [e, List.take_length] at this; exact this⟩
      clear hlt e HS
      go_wp2_with (go_at_call 101; ((with_reducible refine (Grow_calls s _ hsl).mono ?_)); rintro e w1 ⟨v1, rfl, ho, hb⟩; have HO := Aside0.mk ho; have HB := Aside0.mk hb; clear ho hb)
      go_loopg [6, 27] l.length (fun kq v6 v27 w' => ∃ k : Nat, v27 = .int .i64 k ∧ Aside0 (k ≤ l.length) ∧ Aside0 (Lx .u8 5 w' w.heap.size v6 (l.take k).flatten) ∧ Aside0 (Below w.heap.size w w') ∧ Aside0 (l.length - k ≤ kq))
      case atStart => exact ⟨0, rfl, ⟨Nat.zero_le _⟩, HO, HB, ⟨Nat.le_refl _⟩⟩
      case round =>
        clear HO HB
        obtain ⟨j, rfl, hj, HO, HB, HJ⟩ := hrel
        by_cases hlt : j < l.length
        · obtain ⟨ad, A0, c0, rfl, hx, hl0, hC0⟩ := at_L4 (Kd.C_below H.out HB.out) (j : Int) (by omega) (by omega)
          rw [Int.toNat_natCast] at hx
          have HT := Aside0.mk (flat_take l j hlt)
          have HL := Aside0.mk (show ((l.take j).flatten).length + (rd_L4 l j).length ≤ 140737488355328 by
            have h1 := flat_len (l.take (j + 1))
            rw [HT.out, List.length_append] at h1
            have h2 := lenSum_le l (j + 1)
            omega)
          have HC0 := Aside0.mk hC0
          clear hC0
          obtain ⟨r, hr⟩ : ∃ r, rd_L4 l j = r := ⟨_, rfl⟩
          rw [hr] at hx HT HL HC0
          clear hr
          go_wp2_with ((with_reducible refine gate_builtin (b := .append) (xs := #[.tmp 31, .tmp 32]) rfl ?_); at_builtin; refine Lx.append_row (w0 := w) .u8 w.heap.size rfl (.tmp 31) (.tmp 32) 25 5 1 rfl Try.underlying25 info5 (by decide) u6 (l.take j).flatten r A0 r.length c0 rfl rfl ?aO ?aR ?aB ?aS ?aL ?_; (case aO => exact HO.out); (case aR => exact HC0.out); (case aB => exact HB.out); (case aS => exact below_size HB.out); (case aL => have := HL.out; omega); clear HO HB HC0; intro v2 w2 ho hb hg hat; have HO := Aside0.mk ho; have HB := Aside0.mk hb; clear ho hb hg hat)
          go_roundg (l.length - (j + 1))
          case measure => have := HJ.out; omega
          case rel => exact ⟨j + 1, by first | rfl | (simp; done), ⟨hlt⟩, ⟨by rw [HT.out]; exact HO.out⟩, HB, ⟨Nat.le_refl _⟩⟩
        · have e : j = l.length := by have := hj.out; omega
          have hge2 : l.length ≤ j := by omega
          have HO2 : Aside0 (Lx .u8 5 wr w.heap.size u6 l.flatten) := ⟨by have := HO.out; rw [e, List.take_length] at this; exact this⟩
          clear hlt e HO
          go_wp2
          go_ret
          exact ⟨_, rfl, HO2.out, HB.out⟩
end Go.Proofs.Ytimlgpfcgklddaa.P
