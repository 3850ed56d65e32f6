/-
Texts of this seat, laid together: A2.
-/
import Derived.WalkSpells
import Derived.Lib.Hide
import Derived.Test.YtimlgpfcgklddaaQB0
import Derived.Test.YtimlgpfcgklddaaQA1
namespace Go.Proofs.Ytimlgpfcgklddaa.P
open Go.RowKit Go.Proofs.YtimlgpfcgklddaaW.PrintWords Go.Proofs.YtimlgpfcgklddaaW.PrintLast Go.Proofs.YtimlgpfcgklddaaW.PrintMore
set_option linter.unusedVariables false
set_option linter.unusedSimpArgs false

set_option maxHeartbeats 400000 in
theorem Clip_calls (A : Option Addr) (n c : Nat) (w : World) (hn : n ≤ c) (hm : n ≤ 9223372036854775807) :
    Calls Try.prog 45 #[.slice A n c] w fun e w' => e = .returned (.slice A n n) ∧ w = w' := by
  go_enter Try.func45, Try.ntmps45
  go_wp2
  go_ret
  exact ⟨rfl, rfl⟩

set_option maxHeartbeats 400000 in
theorem Clone_calls (A : Option Addr) (xs : List Int) (c : Nat) (w : World) (h : (Kd.int .u8).C w A xs.length xs) (hc : xs.length ≤ c) (hl : xs.length ≤ 140737488355328) :
    Calls Try.prog 79 #[.slice A xs.length c] w fun e w' => ∃ v, e = .returned v ∧ Lx .u8 5 w' w.heap.size v xs ∧ Below w.heap.size w w' := by
  rcases A with _ | ad
  · have h0 : xs.length = 0 := by
      rcases Nat.eq_zero_or_pos xs.length with h0 | h0
      · exact h0
      · obtain ⟨ad, h, _⟩ := h.2.2 h0
        cases h
    obtain rfl : xs = [] := List.eq_nil_of_length_eq_zero h0
    clear h h0 hc hl
    have heq : ∀ w, (binOp .eql 25 (.slice none 0 c) (.slice none 0 0)).run Try.prog w = .ok (.bool true) w := fun w => Lib.run_eql_slice_nil w 25 5 none 0 c 0 0 Try.underlying25
    go_enter Try.func79, Try.ntmps79
    go_wp2
    go_ret
    exact ⟨_, rfl, Lx.nil _ _ _ _, Below.refl _ _⟩
  · have H := Aside0.mk h
    have HL := Aside0.mk hl
    clear h hl
    have heq : ∀ w, (binOp .eql 25 (.slice (some ad) xs.length c) (.slice none 0 0)).run Try.prog w = .ok (.bool false) w := fun w => Lib.run_eql_slice_nil w 25 5 (some ad) xs.length c 0 0 Try.underlying25
    go_enter Try.func79, Try.ntmps79
    go_wp2_with ((with_reducible refine gate_builtin (b := .append) (xs := #[.tmp 5, .tmp 6]) rfl ?_); at_builtin; refine Lx.append_row (w0 := w) .u8 w.heap.size rfl (.tmp 5) (.tmp 6) 25 5 1 rfl Try.underlying25 info5 (by decide) (.slice (some ⟨w.heap.size, 0, none⟩) 0 0) [] xs (some ad) xs.length c rfl rfl ?aO ?aR ?aB ?aS ?aL ?_; (case aO => exact Lx.empty _ _ _ _ (Nat.le_refl _)); (case aR => exact Kd.C_alloc H.out _); (case aB => exact below_alloc (Below.refl _ _) _); (case aS => simp); (case aL => have := HL.out; simp; omega); intro v1 w1 ho hb hg hat)
    go_ret
    exact ⟨_, rfl, by simpa using ho, hb⟩

set_option maxHeartbeats 400000 in
theorem same_calls (u : Int) (w : World) : Calls Try.prog 74 #[.int .u64 u] w fun e w' => e = .returned (.int .u64 u) ∧ w = w' := by
  go_enter Try.func74, Try.ntmps74
  go_wp2
  go_ret
  exact ⟨rfl, rfl⟩
theorem or128F : ∀ x : Fin 256, bits .or .u8 ((x.val : Nat) : Int) 128 = ((x.val % 128 + 128 : Nat) : Int) := by decide +kernel
theorem or128 {x : Int} (h0 : 0 ≤ x) : bits .or .u8 (x % 256) 128 = x % 128 + 128 := by
  have h := or128F ⟨(x % 256).toNat, by omega⟩
  have e : (((x % 256).toNat : Nat) : Int) = x % 256 := by omega
  simp only [e] at h
  rw [h]
  omega
set_option maxHeartbeats 800000 in
theorem put_calls (A : Option Addr) (xs : List Int) (c : Nat) (u : Int) (w : World) (h : (Kd.int .u8).C w A xs.length xs) (hc : xs.length ≤ c) (hl : xs.length ≤ 140737488355300) (hu0 : 0 ≤ u) (hu : u < 18446744073709551616) :
    Calls Try.prog 73 #[.slice A xs.length c, .int .u64 u, .func (.func 74) #[] #[]] w fun e w' => ∃ v, e = .returned v ∧ Lx .u8 5 w' w.heap.size v (xs ++ uv u) ∧ Below w.heap.size w w' := by
  have H := Aside0.mk h
  have HL := Aside0.mk hl
  clear h hl
  go_enter Try.func73, Try.ntmps73
  go_wp2_with (first | (go_at_call 79; ((with_reducible refine (Clone_calls _ _ _ _ H.out hc (by have := HL.out; omega)).mono ?_)); rintro e w1 ⟨v1, rfl, ho, hb⟩; have HO := Aside0.mk ho; have HB := Aside0.mk hb; clear ho hb) | (go_at_call 74; ((with_reducible refine (same_calls _ _).mono ?_)); rintro e w2 ⟨rfl, rfl⟩))
  go_loopg [7, 8] u.toNat (fun kq v7 v8 w' => ∃ (pre : List Int) (uu : Int), v8 = .int .u64 uu ∧ Aside0 (0 ≤ uu ∧ uu < 18446744073709551616) ∧ Aside0 (pre ++ uv uu = uv u) ∧ Aside0 (Lx .u8 5 w' w.heap.size v7 (xs ++ pre)) ∧ Aside0 (Below w.heap.size w w') ∧ Aside0 (uu.toNat ≤ kq))
  case atStart => exact ⟨[], u, rfl, ⟨⟨hu0, hu⟩⟩, ⟨rfl⟩, ⟨by simpa using HO.out⟩, HB, ⟨Nat.le_refl _⟩⟩
  case round =>
    clear HO HB
    obtain ⟨pre, uu, rfl, HU, HP, HO, HB, HK⟩ := hrel
    have HLp := Aside0.mk (show pre.length + (uv uu).length ≤ 10 by have := congrArg List.length HP.out; rw [List.length_append] at this; have := (uv_len hu).2; omega)
    obtain ⟨hu1, hu2⟩ := HU.out
    clear HU
    by_cases hbig : 127 < uu
    · have HS := Aside0.mk (uv_big hbig)
      have e1 : Aside0 ((xs ++ pre).length + 1 ≤ 140737488355320) := ⟨by have := HLp.out; have := HL.out; simp only [List.length_append]; omega⟩
      have H8 := Aside0.mk (or128 hu1)
      go_wp2_with ((with_reducible refine gate_builtin (b := .append) (xs := #[.tmp 18, .tmp 22]) rfl ?_); at_builtin; refine Lx.append_one (w0 := w) .u8 w.heap.size rfl (.tmp 18) (.tmp 22) 25 5 1 rfl Try.underlying25 info5 (by decide) u7 (xs ++ pre) _ rfl rfl ?aO ?aB ?aS ?aL ?_; (case aO => exact HO.out); (case aB => exact HB.out); (case aS => exact below_size HB.out); (case aL => have := e1.out; omega); clear HO HB; intro v2 w2 ho hb hg hat; have HO := Aside0.mk ho; have HB := Aside0.mk hb; clear ho hb hg hat)
      go_roundg (uu / 128).toNat
      case measure => have := HK.out; omega
      case rel => exact ⟨pre ++ [uu % 128 + 128], uu / 128, rfl, ⟨by omega, by omega⟩, ⟨by rw [List.append_assoc, List.singleton_append, ← HS.out]; exact HP.out⟩, ⟨by rw [← List.append_assoc, ← H8.out]; exact HO.out⟩, HB, ⟨Nat.le_refl _⟩⟩
    · have HS := Aside0.mk (uv_small hu1 (by omega))
      have e1 : Aside0 ((xs ++ pre).length + 1 ≤ 140737488355320) := ⟨by have := HLp.out; have := HL.out; simp only [List.length_append]; omega⟩
      go_wp2_with (first | ((with_reducible refine gate_builtin (b := .append) (xs := #[.tmp 24, .tmp 27]) rfl ?_); at_builtin; refine Lx.append_one (w0 := w) .u8 w.heap.size rfl (.tmp 24) (.tmp 27) 25 5 1 rfl Try.underlying25 info5 (by decide) u7 (xs ++ pre) _ rfl rfl ?aO ?aB ?aS ?aL ?_; (case aO => exact HO.out); (case aB => exact HB.out); (case aS => exact below_size HB.out); (case aL => have := e1.out; omega); clear HO HB; intro v2 w2 ho hb hg hat; obtain ⟨ys, hys⟩ : ∃ ys, xs ++ pre ++ [uu] = ys := ⟨_, rfl⟩; rw [hys] at ho; have HY := Aside0.mk hys; clear hys; have HO := Aside0.mk ho; have HB := Aside0.mk hb; clear ho hb hg hat; obtain ⟨A2, c2, rfl, hc2, hC2⟩ := HO.out.reads; have HC2 := Aside0.mk hC2; clear hC2) | (go_at_call 45; ((with_reducible refine (Clip_calls _ _ _ _ hc2 (Kd.C_max HC2.out)).mono ?_)); rintro e w3 ⟨rfl, rfl⟩))
      go_ret
      have e2 : xs ++ pre ++ [uu] = xs ++ uv u := by rw [← HP.out, HS.out, List.append_assoc]
      exact ⟨_, rfl, by rw [← e2, HY.out]; exact Lax.clip HO.out, HB.out⟩
end Go.Proofs.Ytimlgpfcgklddaa.P
