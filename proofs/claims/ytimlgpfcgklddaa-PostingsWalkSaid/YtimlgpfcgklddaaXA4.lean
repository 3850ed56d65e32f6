/-
Texts of this seat, laid together: A4, A5.
-/
import Derived.Lib.Strings
import Derived.Lib.Slices
import Derived.Lib.Small
import Derived.Lib.Walk
import Derived.Lib.BitFns
import Derived.Test.YtimlgpfcgklddaaXM2
import Derived.Test.YtimlgpfcgklddaaXB0
/-
math/bits.Len64: how many bits a number has.
-/
namespace Go.Proofs.Ytimlgpfcgklddaa.P
open Go.RowKit
set_option linter.unusedVariables false
set_option linter.unusedSimpArgs false
theorem tabF : ∀ k : Fin 256, ((Lib.len8tab[k.val]'(by have e : Lib.len8tab.size = 256 := by decide +kernel
                                                       omega)).toNat : Nat) = Lib.bitLen k.val := by decide +kernel
theorem tab_at (i : Int) (h : i.toNat < Lib.len8tab.size) (h0 : 0 ≤ i) (h1 : i < 256) : ((Lib.len8tab[i.toNat]'h).toNat : Int) = Lib.bitLen i.toNat := by
  have := tabF ⟨i.toNat, by omega⟩
  exact congrArg (Nat.cast (R := Int)) this
theorem close (x q : Int) (K : Nat) (h0 : 0 ≤ q) (h1 : q < 256) (hs : Lib.bitLen x.toNat = K + Lib.bitLen q.toNat) (hK : K ≤ 64) : wrap64 ((K : Int) + wrap64 (Lib.bitLen q.toNat : Int)) = (Lib.bitLen x.toNat : Int) := by
  have := Lib.bitLen_le8' q h0 (by omega)
  unfold wrap64
  omega
set_option maxHeartbeats 4000000 in
set_option maxRecDepth 100000 in
theorem Len64_calls (x : Int) (w : World) (h0 : 0 ≤ x) (h1 : x ≤ 18446744073709551615) :
    Calls Try.prog 127 #[.int .u64 x] w fun e w' => e = .returned (.int .i64 (Lib.bitLen x.toNat)) ∧ w' = w := by
  have hsz : Lib.len8tab.size = 256 := by kernel_rfl
  go_enter Try.func127, Try.ntmps127
  go_wp2
  all_goals (go_ret; refine ⟨congrArg Ending.returned (congrArg (Value.int IntKind.i64) ?_), rfl⟩)
  all_goals first
    | (rw [tab_at (x / 4294967296 / 65536 / 256) (by rw [hsz]; omega) (by omega) (by omega)]
       refine close x (x / 4294967296 / 65536 / 256) 56 (by omega) (by omega) ?_ (by omega)
       have e : (x / 4294967296 / 65536 / 256).toNat = x.toNat / 72057594037927936 := by omega
       have s := Lib.bitLen_shift56 x.toNat (by omega) (by omega)
       rw [e]
       omega)
    | (rw [tab_at (x / 4294967296 / 65536) (by rw [hsz]; omega) (by omega) (by omega)]
       refine close x (x / 4294967296 / 65536) 48 (by omega) (by omega) ?_ (by omega)
       have e : (x / 4294967296 / 65536).toNat = x.toNat / 281474976710656 := by omega
       have s := Lib.bitLen_shift48 x.toNat (by omega) (by omega)
       rw [e]
       omega)
    | (rw [tab_at (x / 4294967296 / 256) (by rw [hsz]; omega) (by omega) (by omega)]
       refine close x (x / 4294967296 / 256) 40 (by omega) (by omega) ?_ (by omega)
       have e : (x / 4294967296 / 256).toNat = x.toNat / 1099511627776 := by omega
       have s := Lib.bitLen_shift40 x.toNat (by omega) (by omega)
       rw [e]
       omega)
    | (rw [tab_at (x / 4294967296) (by rw [hsz]; omega) (by omega) (by omega)]
       refine close x (x / 4294967296) 32 (by omega) (by omega) ?_ (by omega)
       have e : (x / 4294967296).toNat = x.toNat / 4294967296 := by omega
       have s := Lib.bitLen_shift32 x.toNat (by omega) (by omega)
       rw [e]
       omega)
    | (rw [tab_at (x / 65536 / 256) (by rw [hsz]; omega) (by omega) (by omega)]
       refine close x (x / 65536 / 256) 24 (by omega) (by omega) ?_ (by omega)
       have e : (x / 65536 / 256).toNat = x.toNat / 16777216 := by omega
       have s := Lib.bitLen_shift24 x.toNat (by omega) (by omega)
       rw [e]
       omega)
    | (rw [tab_at (x / 65536) (by rw [hsz]; omega) (by omega) (by omega)]
       refine close x (x / 65536) 16 (by omega) (by omega) ?_ (by omega)
       have e : (x / 65536).toNat = x.toNat / 65536 := by omega
       have s := Lib.bitLen_shift16 x.toNat (by omega) (by omega)
       rw [e]
       omega)
    | (rw [tab_at (x / 256) (by rw [hsz]; omega) (by omega) (by omega)]
       refine close x (x / 256) 8 (by omega) (by omega) ?_ (by omega)
       have e : (x / 256).toNat = x.toNat / 256 := by omega
       have s := Lib.bitLen_shift8 x.toNat (by omega) (by omega)
       rw [e]
       omega)
    | (rw [tab_at x (by rw [hsz]; omega) (by omega) (by omega)]
       have l := Lib.bitLen_le8' x (by omega) (by omega)
       unfold wrap64
       omega)
end Go.Proofs.Ytimlgpfcgklddaa.P
/-
pack.Width: how many bits the widest of some numbers has.
-/
namespace Go.Proofs.Ytimlgpfcgklddaa
/-- All numbers' bits together. -/
def orAll (l : List Int) : Int := l.foldl (fun a b => bits .or .u64 a b) 0
theorem orAll_snoc (l : List Int) (x : Int) : orAll (l ++ [x]) = bits .or .u64 (orAll l) x := by unfold orAll; rw [List.foldl_append]; rfl
theorem bits_or_nat (a b : Nat) (ha : a < 2 ^ 64) (hb : b < 2 ^ 64) : bits .or .u64 a b = ((a ||| b : Nat) : Int) := (bits_nat .u64 64 (Nat.le_refl _) (fun n h0 h1 => by rw [wrap_u64]; omega) a b ha hb).2
theorem orAll_range (l : List Int) (h : ∀ x ∈ l, 0 ≤ x ∧ x < 18446744073709551616) : 0 ≤ orAll l ∧ orAll l < 18446744073709551616 := by
  unfold orAll
  have : ∀ (l : List Int) (a : Int), (∀ x ∈ l, 0 ≤ x ∧ x < 18446744073709551616) → 0 ≤ a → a < 18446744073709551616 → 0 ≤ l.foldl (fun a b => bits .or .u64 a b) a ∧ l.foldl (fun a b => bits .or .u64 a b) a < 18446744073709551616 := by
    intro l
    induction l with
    | nil => intro a _ h0 h1; exact ⟨h0, h1⟩
    | cons x r ih =>
      intro a hx h0 h1
      obtain ⟨x0, x1⟩ := hx x List.mem_cons_self
      obtain ⟨m, rfl⟩ := Int.eq_ofNat_of_zero_le h0
      obtain ⟨q, rfl⟩ := Int.eq_ofNat_of_zero_le x0
      rw [List.foldl_cons, bits_or_nat m q (by omega) (by omega)]
      have h2 : m ||| q < 2 ^ 64 := Nat.or_lt_two_pow (by omega) (by omega)
      exact ih _ (fun y hy => hx y (List.mem_cons_of_mem _ hy)) (by omega) (by omega)
  exact this l 0 h (by omega) (by omega)
/-- How many bits the widest has. -/
def widthOf (l : List Int) : Nat := Lib.bitLen (orAll l).toNat
theorem take_rd (l : List Int) (k : Nat) (h : k < l.length) : l.take (k + 1) = l.take k ++ [l.getD k 0] := by
  rw [List.take_succ_eq_append_getElem h]
  congr 2
  simp [List.getD_eq_getElem?_getD, h]
end Go.Proofs.Ytimlgpfcgklddaa
namespace Go.Proofs.Ytimlgpfcgklddaa.P
open Go.RowKit Go.Proofs.YtimlgpfcgklddaaW.PrintWords Go.Proofs.YtimlgpfcgklddaaW.PrintLast Go.Proofs.YtimlgpfcgklddaaW.PrintMore
set_option linter.unusedVariables false
set_option linter.unusedSimpArgs false
set_option maxHeartbeats 1000000 in
theorem Width_calls (A : Option Addr) (l : List Int) (c : Nat) (w : World) (h : (Kd.int .u64).C w A l.length l) (hc : l.length ≤ c) (hr : ∀ x ∈ l, 0 ≤ x ∧ x < 18446744073709551616) :
    Calls Try.prog 104 #[.slice A l.length c] w fun e w' => e = .returned (.int .i64 (widthOf l)) ∧ w = w' := by
  have H := Aside0.mk h
  have HR := Aside0.mk (orAll_range l hr)
  have HM := Aside0.mk (Kd.C_max h)
  clear h hr
  go_enter Try.func104, Try.ntmps104
  go_wp2
  go_loopg [3, 8] l.length (fun kq v3 v8 w' => ∃ k : Nat, v8 = .int .i64 k ∧ Aside0 (k ≤ l.length) ∧ v3 = .int .u64 (orAll (l.take k)) ∧ Aside0 (l.length - k ≤ kq) ∧ w = w')
  case atStart => exact ⟨0, rfl, ⟨Nat.zero_le _⟩, rfl, ⟨Nat.le_refl _⟩, rfl⟩
  case round =>
    obtain ⟨k, rfl, hk, rfl, HK, rfl⟩ := hrel
    obtain ⟨s, hs⟩ : ∃ s, orAll (l.take k) = s := ⟨_, rfl⟩
    rw [hs]
    have HS := Aside0.mk hs
    clear hs
    by_cases hlt : k < l.length
    · obtain ⟨ad, rfl, hx⟩ := Kd.at_int H.out (k : Int) (by omega) (by omega)
      rw [Int.toNat_natCast] at hx
      have hm := HM.out
      have HT := Aside0.mk (take_rd l k hlt)
      go_wp2
      go_roundg (l.length - (k + 1))
      case measure => have := HK.out; omega
      case rel => exact ⟨k + 1, by first | rfl | (simp; done), ⟨hlt⟩, by rw [HT.out, orAll_snoc, HS.out]; rfl, ⟨Nat.le_refl _⟩, rfl⟩
    · have e : k = l.length := by have := hk.out; omega
      have HS2 := Aside0.mk (show orAll l = s by rw [← HS.out, e, List.take_length])
      have hge : l.length ≤ k := by omega
      clear hlt e
      have HRs : Aside0 (0 ≤ s ∧ s ≤ 18446744073709551615) := ⟨by have hr := HR.out; rw [HS2.out] at hr; omega⟩
      go_wp2_with (go_at_call 127; ((with_reducible refine (Len64_calls s _ HRs.out.1 HRs.out.2).mono ?_)); rintro e w1 ⟨rfl, rfl⟩)
      go_ret
      exact ⟨by unfold widthOf; rw [HS2.out]; rfl, rfl⟩
end Go.Proofs.Ytimlgpfcgklddaa.P
