/-
Texts of this seat, laid together: C8, M10, C9, D1, D2.
-/
import Derived.Deep.RegionHeld3
import Derived.BigQuiet
import Derived.Test.YtimlgpfcgklddaaXA15
import Derived.Test.YtimlgpfcgklddaaXC1
import Derived.Test.YtimlgpfcgklddaaXC6
/-
pack.Get: a row of numbers out of bytes.
-/
namespace Go.Proofs.Ytimlgpfcgklddaa
open Go.RowKit
/-- A block of k numbers. -/
def getBlk (st : RSt) (k : Nat) : Option (List Int × RSt) :=
  let a := rInt st
  let b := rBytes a.2 1
  if b.2.e ≠ 0 ∨ b.1.getD 0 0 > 64 then none else
  let wd := (b.1.getD 0 0).toNat
  let d := rBytes b.2 (((wd * k + 7) / 8 : Nat) : Int)
  if d.2.e ≠ 0 ∨ leVal d.1 / 2 ^ (wd * k) ≠ 0 then none else
  let ab := unbitsL (leVal d.1) wd k
  if widthOf ab ≠ wd ∨ minI ab ≠ 0 ∨ ∃ u ∈ ab, a.1 + u > 9223372036854775807 then none else some (ab.map (a.1 + ·), d.2)
/-- m blocks, n numbers. -/
def getGo : Nat → RSt → Nat → List Int → Option (List Int × RSt)
  | 0, st, _, l => some (l, st)
  | m + 1, st, n, l =>
    match getBlk st (min n 128) with
    | none => none
    | some (xs, st') => getGo m st' (n - min n 128) (l ++ xs)
def getF (bs : List Int) (n : Nat) : Option (List Int × RSt) := getGo ((n + 127) / 128) ⟨bs, 0, 0⟩ n []
theorem unz_range {u : Int} (h0 : 0 ≤ u) (h1 : u < 18446744073709551616) : -9223372036854775808 ≤ unz u ∧ unz u ≤ 9223372036854775807 := by
  unfold unz
  split <;> omega
theorem rInt_range {s : RSt} (h : s.ok) : -9223372036854775808 ≤ (rInt s).1 ∧ (rInt s).1 ≤ 9223372036854775807 := by
  have h1 := numF_range (bs := s.bs.drop s.at') (fun x hx => h.range x (List.mem_of_mem_drop hx))
  have h2 : 0 ≤ (rNum s).1 ∧ (rNum s).1 < 18446744073709551616 := took_range h1.1 h1.2.1
  exact unz_range h2.1 h2.2
theorem took_bs (s : RSt) (r : Int × Int) : (took s r).2.bs = s.bs := by
  unfold took
  split
  · rfl
  · split <;> rfl
theorem rInt_bs (s : RSt) : (rInt s).2.bs = s.bs := took_bs _ _
theorem rBytes_bs (s : RSt) (n : Int) : (rBytes s n).2.bs = s.bs := by
  unfold rBytes
  split
  · rfl
  · split <;> rfl
/-- What is read where all went well. -/
theorem rBytes_good {s : RSt} {n : Nat} (h : s.ok) (he : (rBytes s (n : Int)).2.e = 0) : (rBytes s (n : Int)).1.length = n ∧ ∀ x ∈ (rBytes s (n : Int)).1, 0 ≤ x ∧ x < 256 := by
  unfold rBytes at he ⊢
  split at he
  · rename_i h0; exact absurd he h0
  · split at he
    · simp at he
    · rename_i h0 h1
      rw [if_neg h0, if_neg h1]
      have hle := h.le
      simp only [Int.toNat_natCast]
      refine ⟨by rw [List.length_take, List.length_drop]; omega, fun x hx => h.range x (List.mem_of_mem_drop (List.mem_of_mem_take hx))⟩
theorem rBytes_bad {s : RSt} {n : Nat} (h0 : s.e = 0) (he : (rBytes s (n : Int)).2.e ≠ 0) : (rBytes s (n : Int)).1 = [] ∧ (s.ok → 1 ≤ n) := by
  unfold rBytes at he ⊢
  rw [if_neg (by simpa using h0)] at he ⊢
  split at he
  · rename_i h1
    rw [if_pos h1]
    exact ⟨rfl, fun h => by have := h.le; omega⟩
  · exact absurd h0 he
theorem took_ok {s : RSt} (h : s.ok) {r : Int × Int} (hr : r.2 ≤ (s.bs.length : Int) - s.at') : (took s r).2.ok := by
  unfold took
  have hle := h.le
  split
  · exact h
  · split
    · exact ⟨h.le, h.len, h.range⟩
    · exact ⟨by show s.at' + r.2.toNat ≤ s.bs.length; omega, h.len, h.range⟩
theorem rInt_ok {s : RSt} (h : s.ok) : (rInt s).2.ok := by
  have h1 := numF_range (bs := s.bs.drop s.at') (fun x hx => h.range x (List.mem_of_mem_drop hx))
  have hle := h.le
  refine took_ok h ?_
  have := h1.2.2.2
  rw [List.length_drop] at this
  omega
theorem rBytes_ok {s : RSt} (h : s.ok) (n : Int) : (rBytes s n).2.ok := by
  unfold rBytes
  have hle := h.le
  split
  · exact h
  · split
    · exact ⟨h.le, h.len, h.range⟩
    · exact ⟨by show s.at' + n.toNat ≤ s.bs.length; omega, h.len, h.range⟩
theorem unbitsL_range {N wd n : Nat} (h : wd ≤ 64) : ∀ u ∈ unbitsL N wd n, 0 ≤ u ∧ u < 18446744073709551616 := by
  intro u hu
  obtain ⟨i, _, rfl⟩ := List.mem_map.1 hu
  have h1 : N / 2 ^ (wd * i) % 2 ^ wd < 2 ^ wd := Nat.mod_lt _ (Nat.pow_pos (by decide))
  have h2 : 2 ^ wd ≤ 2 ^ 64 := Nat.pow_le_pow_right (by decide) h
  omega
theorem Rdr.drewN {w : World} {R base : Nat} {s : RSt} (h : Rdr w R base s) (m : Nat) : Rdr (w.drewN m) R base s := h.below (YtimlgpfcgklddaaW.PrintWords.pw_below_drewN (Below.refl _ _) m)
theorem Rdr.not {w : World} {R base : Nat} {s : RSt} (h : Rdr w R base s) {e : TypeId} (he : e ≠ 125) {cells : Array Value} (hc : w.heap[R]? = some (.cells cells e (0, 0))) : False := by
  obtain ⟨v, h1, _⟩ := h.v
  rw [h1] at hc
  injection hc with hc
  injection hc with _ hc
  exact he hc.symm
theorem Lx.keepR {w w' : World} {R base b : Nat} {s : RSt} {k : IntKind} {e : TypeId} {v : Value} {l : List Int} (hx : Lx k e w b v l) (h : Rdr w R base s) (he : e ≠ 125) (hg : w.grownBy w' (some R)) : Lx k e w' b v l :=
  Lax.grown hx hg fun j hj ej => by
    obtain ⟨cells, hc⟩ := Lax.typed hx j hj
    injection ej with ej
    rw [ej] at hc
    exact h.not he hc
theorem rBytes_err {s : RSt} {n : Int} {b : List Int} {b3 : List Int} {a3 : Nat} {e3 : Int} (h0 : s.e = 0) (h : rBytes s n = (b, ⟨b3, a3, e3⟩)) (he : e3 ≠ 0) : e3 = 20 := by
  unfold rBytes at h
  rw [if_neg (by simpa using h0)] at h
  split at h
  · injection h with _ h
    injection h with _ _ h
    exact h.symm
  · injection h with _ h
    injection h with _ _ h
    rw [h0] at h
    exact absurd h.symm he
theorem Lx.cell1 {w : World} {base : Nat} {ad : Addr} {c m : Nat} {x : Int} (h : Lx .u8 5 w base (.slice (some ad) m c) [x]) : w.cell? ad = some (.int .u8 x) := by
  obtain ⟨h1, h2, h3⟩ := Lx.reads' h
  obtain ⟨ad', e, hx⟩ := YtimlgpfcgklddaaW.PrintWords.Kd.at_int h3 0 (by simp) (by simp)
  injection e with e
  subst e
  exact hx
theorem grown_trans {a w w' : World} {row : Option Nat} (h : a.grownBy w row) (k : w.grownBy w' row) : a.grownBy w' row :=
  ⟨k.os.trans h.os, k.tape.trans h.tape, k.output.trans h.output, Nat.le_trans h.size k.size, fun i hi hne => (k.block i (Nat.lt_of_lt_of_le hi h.size) hne).trans (h.block i hi hne)⟩
theorem grown_below {a w w' : World} {row : Option Nat} (h : a.grownBy w row) (k : Below w.heap.size w w') : a.grownBy w' row :=
  ⟨k.os.trans h.os, k.tape.trans h.tape, k.output.trans h.output, Nat.le_trans h.size k.size, fun i hi hne => (k.block i (Nat.lt_of_lt_of_le hi h.size)).trans (h.block i hi hne)⟩
end Go.Proofs.Ytimlgpfcgklddaa
namespace Go.Proofs.Ytimlgpfcgklddaa.P
open Go.RowKit Go.Shelf Go.Proofs.YtimlgpfcgklddaaW.PrintWords Go.Proofs.YtimlgpfcgklddaaW.PrintLast Go.Proofs.YtimlgpfcgklddaaW.PrintMore
attribute [local go_sem] min2_mn min_two
set_option linter.unusedVariables false
set_option linter.unusedSimpArgs false
set_option maxRecDepth 100000 in
set_option maxHeartbeats 1000000 in
/-- Unbits where the bytes are too few. -/
theorem Unbits_bad (A : Option Addr) (m c : Nat) (wd n : Nat) (w : World) (hw1 : wd ≤ 64) (hn : n ≤ 1048576) (hl : m ≠ (wd * n + 7) / 8) :
    Calls Try.prog 109 #[.slice A m c, .int .i64 wd, .int .i64 n] w fun e w' => e = .returned (.tuple #[.slice none 0 0, .int .i64 20]) ∧ w' = w := by
  have hmul : wd * n ≤ 64 * n := Nat.mul_le_mul_right _ hw1
  obtain ⟨q, hq⟩ : ∃ q, (wd * n + 7) / 8 = q := ⟨_, rfl⟩
  have HS := Aside0.mk (size_calls wd n w (by omega))
  rw [hq] at HS hl
  have hl2 : ¬ (m : Int) = (q : Int) := by omega
  clear hq
  go_enter Try.func109, Try.ntmps109
  go_wp2
  go_step3
  go_wp2_with (go_at_call 110; ((with_reducible refine HS.out.mono ?_)); rintro e w1 ⟨rfl, rfl⟩)
  rw [Exit.noGoto_ret]
  go_ret2
  exact ⟨rfl, rfl⟩
set_option maxRecDepth 100000 in
set_option maxHeartbeats 1000000 in
theorem Get_calls (A : Option Addr) (bs : List Int) (c : Nat) (n : Nat) (w : World) (h : (Kd.int .u8).C w A bs.length bs) (hc : bs.length ≤ c) (hl : bs.length ≤ 140737488355328) (hr : ∀ x ∈ bs, 0 ≤ x ∧ x < 256) (hn : n ≤ 1048576) :
    Calls Try.prog 86 #[.slice A bs.length c, .int .i64 n] w fun e w' => (getF bs n = none ∧ e = .returned (.tuple #[.slice none 0 0, .int .i64 0, .int .i64 20]) ∨ ∃ l st v, getF bs n = some (l, st) ∧ e = .returned (.tuple #[v, .int .i64 (st.at' : Int), .int .i64 0]) ∧ Lx .i64 2 w' w.heap.size v l) ∧ Below w.heap.size w w' := by
  have H := Aside0.mk h
  have HR := Aside0.mk hr
  clear h hr
  go_enter Try.func86, Try.ntmps86
  go_wp2_with (go_at_call 50; ((with_reducible refine (NewReader_calls A bs c _ H.out hc hl HR.out).mono ?_)); rintro e w1 ⟨R, rfl, hR0, hrd, hb⟩; have HRD := Aside0.mk hrd; have HB := Aside0.mk hb; clear hrd hb)
  go_loopg [7] ((n + 127) / 128) (fun kq v7 w' => ∃ (l : List Int) (st : RSt) (nr : Nat), Aside0 (Lx .i64 2 w' w.heap.size v7 l) ∧ Aside0 (l.length + nr = n) ∧ Aside0 (kq = (nr + 127) / 128) ∧ Aside0 (st.bs = bs) ∧ Aside0 (getGo kq st nr l = getF bs n) ∧ Aside0 (Rdr w' R w.heap.size st) ∧ Aside0 (Below w.heap.size w w'))
  case atStart => exact ⟨[], _, n, ⟨Lx.nil _ _ _ _⟩, ⟨by simp⟩, ⟨rfl⟩, ⟨rfl⟩, ⟨rfl⟩, HRD, HB⟩
  case round =>
    clear HRD HB
    obtain ⟨l, st, nr, HL, hln, HK, HS, HG, HRD, HB⟩ := hrel
    obtain ⟨A1, c1, rfl, hc1, hC1⟩ := HL.out.reads
    have HM1 := Aside0.mk (Kd.C_max hC1)
    have hlnn := hln.out
    clear hC1
    by_cases hlt : l.length < n
    · obtain ⟨k, hk⟩ : ∃ k, min nr 128 = k := ⟨_, rfl⟩
      have hk1 : 1 ≤ k := by omega
      have hk2 : k ≤ 128 := by omega
      have hmn : mn ((n : Int) - (l.length : Int)) 128 = (k : Int) := by unfold mn; split <;> omega
      obtain ⟨m, hm⟩ : ∃ m, gk = m + 1 := ⟨gk - 1, by have := HK.out; omega⟩
      have HG1 : Aside0 ((match getBlk st k with | none => none | some (xs, st') => getGo m st' (nr - k) (l ++ xs)) = getF bs n) := ⟨by
        have := HG.out
        rw [hm, getGo, hk] at this
        exact this⟩
      clear HG
      have hok := HRD.out.ok
      have hlr := rInt_range hok
      obtain ⟨least, s1, h1⟩ : ∃ least s1, rInt st = (least, s1) := ⟨_, _, rfl⟩
      have HInt : Aside0 (∀ W, Rdr W R w.heap.size st → Calls Try.prog 108 #[.pointer (some ⟨R, 0, none⟩)] W fun e w' => e = .returned (.int .i64 least) ∧ Rdr w' R w.heap.size s1 ∧ W.grownBy w' (some R)) := ⟨fun W hW => by
        have := Int_calls R w.heap.size st W hW
        rw [h1] at this
        exact this⟩
      rw [h1] at hlr
      obtain ⟨wb, s2, h2⟩ : ∃ wb s2, rBytes s1 1 = (wb, s2) := ⟨_, _, rfl⟩
      have HBy1 : Aside0 (∀ W, Rdr W R w.heap.size s1 → Calls Try.prog 52 #[.pointer (some ⟨R, 0, none⟩), .int .i64 1] W fun e w' => ∃ v, e = .returned v ∧ Lx .u8 5 w' W.heap.size v wb ∧ Rdr w' R w.heap.size s2 ∧ W.grownBy w' (some R)) := ⟨fun W hW => by
        have := Bytes_calls R w.heap.size s1 1 W hW
        rw [h2] at this
        exact this⟩
      have hgb : getBlk st k = (if s2.e ≠ 0 ∨ wb.getD 0 0 > 64 then none else
          let wd := (wb.getD 0 0).toNat
          let d := rBytes s2 (((wd * k + 7) / 8 : Nat) : Int)
          if d.2.e ≠ 0 ∨ leVal d.1 / 2 ^ (wd * k) ≠ 0 then none else
          let ab := unbitsL (leVal d.1) wd k
          if widthOf ab ≠ wd ∨ minI ab ≠ 0 ∨ ∃ u ∈ ab, least + u > 9223372036854775807 then none else some (ab.map (least + ·), d.2)) := by
        unfold getBlk
        simp only [h1, h2]
      by_cases he2 : s2.e = 0
      · have hok1 : s1.ok := by
          have := (Int_calls R w.heap.size st wr HRD.out)
          have h3 := rInt_ok hok
          rw [h1] at h3
          exact h3
        have hg1 := rBytes_good (n := 1) hok1 (by rw [show ((1 : Nat) : Int) = 1 from rfl, h2]; exact he2)
        rw [show ((1 : Nat) : Int) = 1 from rfl, h2] at hg1
        have hok2 : s2.ok := by
          have h3 := rBytes_ok hok1 1
          rw [h2] at h3
          exact h3
        obtain ⟨x, rfl⟩ : ∃ x, wb = [x] := by
          have := hg1.1
          match wb, this with
          | [x], _ => exact ⟨x, rfl⟩
        obtain ⟨hx0, hx1⟩ := hg1.2 x (List.mem_cons_self ..)
        have hgd : ([x] : List Int).getD 0 0 = x := rfl
        rw [hgd] at hgb
        by_cases hx64 : x > 64
        · rw [if_pos (.inr hx64)] at hgb
          have HN : Aside0 (getF bs n = none) := ⟨by rw [← HG1.out, hgb]⟩
          clear hgb HG1 h1 h2
          go_wp2_with (first | (go_at_call 108; ((with_reducible refine (HInt.out _ HRD.out).mono ?_)); rintro e wa ⟨rfl, hra, hga⟩; have HRa := Aside0.mk hra; have HGa := Aside0.mk hga; clear hra hga) | (go_at_call 52; ((with_reducible refine (HBy1.out _ HRa.out).mono ?_)); rintro e wb2 ⟨vb, rfl, hob, hrb, hgb⟩; have HRb := Aside0.mk hrb; have HOb := Aside0.mk hob; obtain ⟨A2, c2, rfl, hc2, hC2⟩ := hob.reads; obtain ⟨ad2, rfl, hx2⟩ := Kd.at_int hC2 0 (by simp) (by simp); have hx2 : wb2.cell? ad2 = some (.int .u8 x) := hx2; clear hC2; have HGb := Aside0.mk (grown_trans HGa.out hgb); clear hrb hob hgb) | (go_at_call 54; ((with_reducible refine (Err_calls R w.heap.size s2 _ HRb.out).mono ?_)); rintro e w2 ⟨rfl, rfl⟩))
          go_ret3
          exact ⟨.inl ⟨HN.out, rfl⟩, HB.out.grown HGb.out HB.out.size (fun k e => by cases e; exact hR0)⟩
        · rw [if_neg (by omega)] at hgb
          obtain ⟨wd, rfl⟩ := Int.eq_ofNat_of_zero_le hx0
          rw [Int.toNat_natCast] at hgb
          have hwd : wd ≤ 64 := by omega
          have hmul : wd * k ≤ 64 * k := Nat.mul_le_mul_right _ hwd
          obtain ⟨q, hq⟩ : ∃ q, (wd * k + 7) / 8 = q := ⟨_, rfl⟩
          have HSz : Aside0 (∀ W, Calls Try.prog 110 #[.int .i64 wd, .int .i64 k] W fun e w' => e = .returned (.int .i64 (q : Int)) ∧ W = w') := ⟨fun W => by
            have := size_calls wd k W (by omega)
            rw [hq] at this
            exact this⟩
          dsimp only at hgb
          rw [hq] at hgb
          obtain ⟨body, s3, h3⟩ : ∃ body s3, rBytes s2 (q : Int) = (body, s3) := ⟨_, _, rfl⟩
          have HBy2 : Aside0 (∀ W, Rdr W R w.heap.size s2 → Calls Try.prog 52 #[.pointer (some ⟨R, 0, none⟩), .int .i64 (q : Int)] W fun e w' => ∃ v, e = .returned v ∧ Lx .u8 5 w' W.heap.size v body ∧ Rdr w' R w.heap.size s3 ∧ W.grownBy w' (some R)) := ⟨fun W hW => by
            have := Bytes_calls R w.heap.size s2 q W hW
            rw [h3] at this
            exact this⟩
          rw [h3] at hgb
          dsimp only at hgb
          have hwx : IntKind.i64.wrap (wd : Int) = (wd : Int) := by rw [IntKind.wrap_i64]; omega
          by_cases he3 : s3.e = 0
          · have hbg := rBytes_good (n := q) hok2 (by rw [h3]; exact he3)
            rw [h3] at hbg
            dsimp only at hbg
            by_cases hlv : leVal body / 2 ^ (wd * k) = 0
            · rw [if_neg (fun h => h.elim (fun h => h he3) (fun h => h hlv))] at hgb
              obtain ⟨ab, hab⟩ : ∃ ab, unbitsL (leVal body) wd k = ab := ⟨_, rfl⟩
              have habl : ab.length = k := by rw [← hab, unbitsL_length]
              have habr : ∀ u ∈ ab, 0 ≤ u ∧ u < 18446744073709551616 := fun u hu => by rw [← hab] at hu; exact unbitsL_range hwd u hu
              try dsimp only at hgb
              rw [hab] at hgb
              obtain ⟨b3, a3, e3⟩ := s3
              have e30 : e3 = 0 := he3
              subst e30
              have HB3 : Aside0 (b3 = bs) := ⟨by
                have e1 := rInt_bs st
                rw [h1] at e1
                have e2 := rBytes_bs s1 1
                rw [h2] at e2
                have e3 := rBytes_bs s2 q
                rw [h3] at e3
                dsimp only at e1 e2 e3
                rw [e3, e2, e1]
                exact HS.out⟩
              have HU : Aside0 (∀ W A c, (Kd.int .u8).C W A body.length body → body.length ≤ c → Calls Try.prog 109 #[.slice A body.length c, .int .i64 wd, .int .i64 k] W fun e w' => ∃ v, e = .returned (.tuple #[v, .int .i64 0]) ∧ (Kd.int .u64).R 78 w' W.heap.size (fun _ => True) v ab ∧ Below W.heap.size W w') := ⟨fun W A c hC hc => by
                refine (Unbits_calls A body c wd k W hC hc hwd (by omega) hbg.2 (by rw [hbg.1, hq])).mono ?_
                rintro e w' ⟨h, hb⟩
                rcases h with ⟨h, _⟩ | ⟨_, v, rfl, hv⟩
                · exact absurd hlv h
                · exact ⟨v, rfl, by rw [← hab]; exact hv, hb⟩⟩
              have HAR := Aside0.mk habr
              obtain ⟨wv, hwv⟩ : ∃ wv, widthOf ab = wv := ⟨_, rfl⟩
              obtain ⟨mv, hmv⟩ : ∃ mv, minI ab = mv := ⟨_, rfl⟩
              have HWi : Aside0 (∀ W A c, (Kd.int .u64).C W A ab.length ab → ab.length ≤ c → Calls Try.prog 104 #[.slice A ab.length c] W fun e w' => e = .returned (.int .i64 (wv : Int)) ∧ W = w') := ⟨fun W A c hC hc => by
                have := Width_calls A ab c W hC hc HAR.out
                rw [hwv] at this
                exact this⟩
              have HMi : Aside0 (∀ W A c, (Kd.int .u64).C W A ab.length ab → ab.length ≤ c → Calls Try.prog 111 #[.slice A ab.length c] W fun e w' => e = .returned (.int .u64 mv) ∧ W = w') := ⟨fun W A c hC hc => by
                have := MinU_calls A ab c W hC hc (by omega)
                rw [hmv] at this
                exact this⟩
              rw [hwv, hmv] at hgb
              have HABL := Aside0.mk habl
              clear h1 h2 h3 hg1 hlv he3 hbg habr hab hwv hmv habl
              by_cases hww : wv = wd
              · subst hww
                by_cases hmm : mv = 0
                · subst hmm
                  have HGB := Aside0.mk hgb
                  have HLR := Aside0.mk hlr
                  have hnk : k ≤ nr := by omega
                  clear hgb
                  go_wp2_with (first | (go_at_call 108; ((with_reducible refine (HInt.out _ HRD.out).mono ?_)); rintro e wa ⟨rfl, hra, hga⟩; have HRa := Aside0.mk hra; have HGa := Aside0.mk hga; clear hra hga) | (go_at_call 52; ((with_reducible refine (HBy1.out _ HRa.out).mono ?_)); rintro e wb2 ⟨vb, rfl, hob, hrb, hgb⟩; have HRb := Aside0.mk hrb; have HOb := Aside0.mk hob; obtain ⟨A2, c2, rfl, hc2, hC2⟩ := hob.reads; obtain ⟨ad2, rfl, hx2⟩ := Kd.at_int hC2 0 (by simp) (by simp); have hx2 : wb2.cell? ad2 = some (.int .u8 (wv : Int)) := hx2; clear hC2; have HGb := Aside0.mk (grown_trans HGa.out hgb); clear hrb hob hgb) | (go_at_call 54; ((with_reducible refine (Err_calls R w.heap.size s2 _ HRb.out).mono ?_)); rintro e w2 ⟨rfl, rfl⟩))
                  go_region_held3 (fun w' => w'.cell? ad2 = some (.int .u8 (wv : Int))) (first | exact hx4 | exact hx3 | exact hx2) (first | (go_at_call 110; ((with_reducible refine (HSz.out _).mono ?_)); rintro e w2 ⟨rfl, rfl⟩) | (go_at_call 52; ((with_reducible refine (HBy2.out _ HRb.out.drew).mono ?_)); rintro e wc ⟨vc, rfl, hoc, hrc, hgc⟩; obtain ⟨A3, c3, rfl, hc3, hC3⟩ := hoc.reads; have HC3 := Aside0.mk hC3; have HRc := Aside0.mk hrc; have HOc := Aside0.mk (Lx.keepR (Lx.drew HOb.out) HRb.out.drew (by decide) hgc); have hx3 := Lx.cell1 HOc.out; have HGc := Aside0.mk (grown_trans (grown_below HGb.out (Below.drew (Below.refl _ _))) hgc); clear hoc hrc hgc hC3) | (go_at_call 109; ((with_reducible refine (HU.out _ _ _ HC3.out hc3).mono ?_)); rintro e w5 ⟨v5, rfl, ho5, hb5⟩; obtain ⟨A5, c5, rfl⟩ := Kd.R_slice ho5; have hc5 : ab.length ≤ c5 := (Kd.R_reads' ho5).2.1; have HC5 := Aside0.mk (Kd.R_reads' ho5).2.2; have HB5 := Aside0.mk hb5; have HO5 := Aside0.mk ho5; have hx4 := Lx.cell1 (Lx.below HOc.out hb5); clear hb5 ho5))
                  go_wp2
                  go_big_quiet (first | (go_at_call 54; ((with_reducible refine (Err_calls R w.heap.size ⟨b3, a3, 0⟩ _ ((HRc.out.below HB5.out).drewN _)).mono ?_)); rintro e w6 ⟨rfl, rfl⟩; exact ⟨rfl, _, rfl⟩) | (go_at_call 104; ((with_reducible refine (HWi.out _ _ _ (Kd.C_below HC5.out (pw_below_drewN (Below.refl _ _) _)) hc5).mono ?_)); rintro e w6 ⟨rfl, rfl⟩; exact ⟨rfl, _, rfl⟩) | (go_at_call 111; ((with_reducible refine (HMi.out _ _ _ (Kd.C_below HC5.out (pw_below_drewN (Below.refl _ _) _)) hc5).mono ?_)); rintro e w6 ⟨rfl, rfl⟩; exact ⟨rfl, _, rfl⟩))
                  go_wp2
                  have hgN := grown_below (grown_below HGc.out HB5.out) (pw_below_drewN (Below.refl _ _) nq)
                  have HL5 := Aside0.mk (Lx.keepR HL.out HRD.out (by decide) hgN)
                  have HR5 := Aside0.mk ((HRc.out.below HB5.out).drewN nq)
                  have HBB5 := Aside0.mk (HB.out.grown hgN HB.out.size (fun k e => by cases e; exact hR0))
                  have HC55 := Aside0.mk (Kd.R_below HO5.out (pw_below_drewN (Below.refl _ _) nq))
                  clear hgN hx2 hx3 hx4 HGa HGb HGc HB5 HC5 HO5 HOb HOc HRa HRb HRc HL HRD HB
                  go_loopg [7, 87] ab.length (fun kq2 v7 v87 w' => ∃ j : Nat, v87 = .int .i64 j ∧ Aside0 (j + kq2 = ab.length) ∧ Aside0 (Lx .i64 2 w' w.heap.size v7 (l ++ (ab.take j).map (least + ·))) ∧ Aside0 (Rdr w' R w.heap.size ⟨b3, a3, 0⟩) ∧ Aside0 (Below w.heap.size w w') ∧ Aside0 (∀ u ∈ ab.take j, least + u ≤ 9223372036854775807) ∧ Aside0 ((Kd.int .u64).R 78 w' wc.heap.size (fun _ => True) (.slice A5 ab.length c5) ab))
                  case atStart => exact ⟨0, rfl, ⟨by omega⟩, ⟨by simpa using HL5.out⟩, HR5, HBB5, ⟨fun u hu => by simp at hu⟩, HC55⟩
                  case round =>
                    clear HL5 HR5 HBB5 HC55
                    obtain ⟨j, rfl, hj, HL, HRD, HB, HMX, HC5⟩ := hrel
                    by_cases hjl : j < ab.length
                    · obtain ⟨ad5, rfl, hx5⟩ := Kd.at_int (Kd.R_reads' HC5.out).2.2 (j : Int) (by omega) (by omega)
                      rw [Int.toNat_natCast] at hx5
                      have htk := take_rd ab j hjl
                      have hmem : ab.getD j 0 ∈ ab := by rw [List.getD_eq_getElem?_getD, List.getElem?_eq_getElem hjl]; exact List.getElem_mem hjl
                      obtain ⟨u, hu⟩ : ∃ u, rd ab j = u := ⟨_, rfl⟩
                      have hu2 : ab.getD j 0 = u := by rw [← hu]; unfold rd; rw [Int.toNat_natCast]
                      rw [hu] at hx5
                      rw [hu2] at hmem htk
                      obtain ⟨hu0, hu1⟩ := HAR.out u hmem
                      have HMEM := Aside0.mk hmem
                      have HTK := Aside0.mk htk
                      clear hmem htk hu hu2
                      obtain ⟨hlr0, hlr1⟩ := HLR.out
                      by_cases hov : least + u ≤ 9223372036854775807
                      · have hwz : IntKind.i64.wrap (IntKind.u64.wrap (IntKind.u64.wrap least + u)) = least + u := by rw [wrap_u64, wrap_u64, IntKind.wrap_i64]; omega
                        have hnl : ¬ least + u < least := by omega
                        obtain ⟨ls, hls⟩ : ∃ ls, l ++ (ab.take j).map (least + ·) = ls := ⟨_, rfl⟩
                        rw [hls] at HL
                        have HLS := Aside0.mk hls
                        have HLL : Aside0 (ls.length ≤ 1048576) := ⟨by
                          have h1 := congrArg List.length hls
                          rw [List.length_append, List.length_map, List.length_take] at h1
                          have := HABL.out
                          omega⟩
                        clear hls
                        go_wp2_with ((with_reducible refine gate_builtin (b := .append) (xs := #[.tmp 99, .tmp 101]) rfl ?_); at_builtin; refine Lx.append_oneN (w0 := w) .i64 w.heap.size rfl (.tmp 99) (.tmp 101) 85 2 8 rfl Try.underlying85 info2 (by decide) u7 ls (least + u) wr.heap.size ?aN rfl rfl ?aO ?aB ?aS ?aL ?_; (case aN => first | rfl | simp); (case aO => exact HL.out); (case aB => exact HB.out); (case aS => exact HB.out.size); (case aL => have := HLL.out; omega); intro v9 w9 ho9 hb9 hg9 _; have HO9 := Aside0.mk ho9; have HB9 := Aside0.mk hb9; have HG9 := Aside0.mk hg9; clear ho9 hb9 hg9)
                        have hNR : some R ≠ u7.ownBlock := fun e => by
                          obtain ⟨cells, hcc⟩ := Lax.typed HL.out R e.symm
                          exact HRD.out.not (by decide) hcc
                        have HR9 : Aside0 (Rdr w9 R w.heap.size ⟨b3, a3, 0⟩) := ⟨HRD.out.grown HG9.out hNR (fun j' hj' cells hcc => by
                          obtain ⟨cells2, hc2⟩ := Lax.typed HL.out j' hj'
                          rw [hc2] at hcc
                          injection hcc with hcc
                          injection hcc with _ hcc
                          exact absurd hcc (by decide))⟩
                        have HC9 : Aside0 ((Kd.int .u64).R 78 w9 wc.heap.size (fun _ => True) (.slice (some ad5) ab.length c5) ab) := ⟨Kd.R_over' HC5.out (Lax.typed HL.out) (by decide) HG9.out⟩
                        go_roundg (gk - 1)
                        case measure => have := hj.out; omega
                        case rel => exact ⟨j + 1, by first | rfl | (simp; done) | (have h1 := HABL.out; simp; unfold wrap64; omega), ⟨by have := hj.out; omega⟩, ⟨by rw [HTK.out, List.map_append, ← List.append_assoc, HLS.out]; exact HO9.out⟩, HR9, HB9, ⟨fun y hy => by
                          rw [HTK.out] at hy
                          rcases List.mem_append.1 hy with hy | hy
                          · exact HMX.out y hy
                          · rw [List.mem_singleton] at hy; rw [hy]; exact hov⟩, HC9⟩
                      · have hwz : IntKind.i64.wrap (IntKind.u64.wrap (IntKind.u64.wrap least + u)) = least + u - 18446744073709551616 := by rw [wrap_u64, wrap_u64, IntKind.wrap_i64]; omega
                        have hlt2 : least + u - 18446744073709551616 < least := by omega
                        have HN : Aside0 (getF bs n = none) := ⟨by
                          have h := HGB.out
                          rw [if_pos (.inr (.inr ⟨u, HMEM.out, by omega⟩))] at h
                          rw [← HG1.out, h]⟩
                        go_wp2
                        go_ret3
                        exact ⟨.inl ⟨HN.out, rfl⟩, HB.out⟩
                    · have hje : j = ab.length := by have := hj.out; omega
                      have htk : ab.take j = ab := by rw [hje, List.take_length]
                      rw [htk] at HL HMX
                      have hgn : Aside0 (getGo m ⟨b3, a3, 0⟩ (nr - k) (l ++ ab.map (least + ·)) = getF bs n) := ⟨by
                        have h := HGB.out
                        rw [if_neg (by
                          rintro (h | h | ⟨u, hu, h⟩)
                          · exact h rfl
                          · exact h rfl
                          · have := HMX.out u hu; omega)] at h
                        have h2 := HG1.out
                        rw [h] at h2
                        exact h2⟩
                      have hjj : ¬ (j : Int) < (ab.length : Int) := by omega
                      clear htk
                      go_wp2
                      go_roundg m
                      case measure => omega
                      case rel => exact ⟨l ++ ab.map (least + ·), ⟨b3, a3, 0⟩, nr - k, HL, ⟨by rw [List.length_append, List.length_map]; have := HABL.out; omega⟩, ⟨by have := HK.out; omega⟩, HB3, hgn, HRD, HB⟩
                · rw [if_pos (.inr (.inl hmm))] at hgb
                  have HN : Aside0 (getF bs n = none) := ⟨by rw [← HG1.out, hgb]⟩
                  have hmb : (mv != 0) = true := by simp [hmm]
                  clear hgb HG1
                  go_wp2_with (first | (go_at_call 108; ((with_reducible refine (HInt.out _ HRD.out).mono ?_)); rintro e wa ⟨rfl, hra, hga⟩; have HRa := Aside0.mk hra; have HGa := Aside0.mk hga; clear hra hga) | (go_at_call 52; ((with_reducible refine (HBy1.out _ HRa.out).mono ?_)); rintro e wb2 ⟨vb, rfl, hob, hrb, hgb⟩; have HRb := Aside0.mk hrb; have HOb := Aside0.mk hob; obtain ⟨A2, c2, rfl, hc2, hC2⟩ := hob.reads; obtain ⟨ad2, rfl, hx2⟩ := Kd.at_int hC2 0 (by simp) (by simp); have hx2 : wb2.cell? ad2 = some (.int .u8 (wv : Int)) := hx2; clear hC2; have HGb := Aside0.mk (grown_trans HGa.out hgb); clear hrb hob hgb) | (go_at_call 54; ((with_reducible refine (Err_calls R w.heap.size s2 _ HRb.out).mono ?_)); rintro e w2 ⟨rfl, rfl⟩))
                  go_region_held3 (fun w' => w'.cell? ad2 = some (.int .u8 (wv : Int))) (first | exact hx4 | exact hx3 | exact hx2) (first | (go_at_call 110; ((with_reducible refine (HSz.out _).mono ?_)); rintro e w2 ⟨rfl, rfl⟩) | (go_at_call 52; ((with_reducible refine (HBy2.out _ HRb.out.drew).mono ?_)); rintro e wc ⟨vc, rfl, hoc, hrc, hgc⟩; obtain ⟨A3, c3, rfl, hc3, hC3⟩ := hoc.reads; have HC3 := Aside0.mk hC3; have HRc := Aside0.mk hrc; have HOc := Aside0.mk (Lx.keepR (Lx.drew HOb.out) HRb.out.drew (by decide) hgc); have hx3 := Lx.cell1 HOc.out; have HGc := Aside0.mk (grown_trans (grown_below HGb.out (Below.drew (Below.refl _ _))) hgc); clear hoc hrc hgc hC3) | (go_at_call 109; ((with_reducible refine (HU.out _ _ _ HC3.out hc3).mono ?_)); rintro e w5 ⟨v5, rfl, ho5, hb5⟩; obtain ⟨A5, c5, rfl⟩ := Kd.R_slice ho5; have hc5 : ab.length ≤ c5 := (Kd.R_reads' ho5).2.1; have HC5 := Aside0.mk (Kd.R_reads' ho5).2.2; have HB5 := Aside0.mk hb5; have hx4 := Lx.cell1 (Lx.below HOc.out hb5); clear hb5 ho5))
                  go_wp2
                  go_big_quiet (first | (go_at_call 54; ((with_reducible refine (Err_calls R w.heap.size ⟨b3, a3, 0⟩ _ ((HRc.out.below HB5.out).drewN _)).mono ?_)); rintro e w6 ⟨rfl, rfl⟩; exact ⟨rfl, _, rfl⟩) | (go_at_call 104; ((with_reducible refine (HWi.out _ _ _ (Kd.C_below HC5.out (pw_below_drewN (Below.refl _ _) _)) hc5).mono ?_)); rintro e w6 ⟨rfl, rfl⟩; exact ⟨rfl, _, rfl⟩) | (go_at_call 111; ((with_reducible refine (HMi.out _ _ _ (Kd.C_below HC5.out (pw_below_drewN (Below.refl _ _) _)) hc5).mono ?_)); rintro e w6 ⟨rfl, rfl⟩; exact ⟨rfl, _, rfl⟩))
                  go_wp2
                  go_ret3
                  exact ⟨.inl ⟨HN.out, rfl⟩, HB.out.grown (grown_below (grown_below HGc.out HB5.out) (pw_below_drewN (Below.refl _ _) _)) HB.out.size (fun k e => by cases e; exact hR0)⟩
              · rw [if_pos (.inl hww)] at hgb
                have HN : Aside0 (getF bs n = none) := ⟨by rw [← HG1.out, hgb]⟩
                have hwi : ¬ (wv : Int) = (wd : Int) := by omega
                have hwb : ((wv : Int) != (wd : Int)) = true := by simp [hwi]
                clear hgb HG1
                go_wp2_with (first | (go_at_call 108; ((with_reducible refine (HInt.out _ HRD.out).mono ?_)); rintro e wa ⟨rfl, hra, hga⟩; have HRa := Aside0.mk hra; have HGa := Aside0.mk hga; clear hra hga) | (go_at_call 52; ((with_reducible refine (HBy1.out _ HRa.out).mono ?_)); rintro e wb2 ⟨vb, rfl, hob, hrb, hgb⟩; have HRb := Aside0.mk hrb; have HOb := Aside0.mk hob; obtain ⟨A2, c2, rfl, hc2, hC2⟩ := hob.reads; obtain ⟨ad2, rfl, hx2⟩ := Kd.at_int hC2 0 (by simp) (by simp); have hx2 : wb2.cell? ad2 = some (.int .u8 (wd : Int)) := hx2; clear hC2; have HGb := Aside0.mk (grown_trans HGa.out hgb); clear hrb hob hgb) | (go_at_call 54; ((with_reducible refine (Err_calls R w.heap.size s2 _ HRb.out).mono ?_)); rintro e w2 ⟨rfl, rfl⟩))
                go_region_held3 (fun w' => w'.cell? ad2 = some (.int .u8 (wd : Int))) (first | exact hx4 | exact hx3 | exact hx2) (first | (go_at_call 110; ((with_reducible refine (HSz.out _).mono ?_)); rintro e w2 ⟨rfl, rfl⟩) | (go_at_call 52; ((with_reducible refine (HBy2.out _ HRb.out.drew).mono ?_)); rintro e wc ⟨vc, rfl, hoc, hrc, hgc⟩; obtain ⟨A3, c3, rfl, hc3, hC3⟩ := hoc.reads; have HC3 := Aside0.mk hC3; have HRc := Aside0.mk hrc; have HOc := Aside0.mk (Lx.keepR (Lx.drew HOb.out) HRb.out.drew (by decide) hgc); have hx3 := Lx.cell1 HOc.out; have HGc := Aside0.mk (grown_trans (grown_below HGb.out (Below.drew (Below.refl _ _))) hgc); clear hoc hrc hgc hC3) | (go_at_call 109; ((with_reducible refine (HU.out _ _ _ HC3.out hc3).mono ?_)); rintro e w5 ⟨v5, rfl, ho5, hb5⟩; obtain ⟨A5, c5, rfl⟩ := Kd.R_slice ho5; have hc5 : ab.length ≤ c5 := (Kd.R_reads' ho5).2.1; have HC5 := Aside0.mk (Kd.R_reads' ho5).2.2; have HB5 := Aside0.mk hb5; have hx4 := Lx.cell1 (Lx.below HOc.out hb5); clear hb5 ho5))
                go_wp2
                go_big_quiet (first | (go_at_call 54; ((with_reducible refine (Err_calls R w.heap.size ⟨b3, a3, 0⟩ _ ((HRc.out.below HB5.out).drewN _)).mono ?_)); rintro e w6 ⟨rfl, rfl⟩; exact ⟨rfl, _, rfl⟩) | (go_at_call 104; ((with_reducible refine (HWi.out _ _ _ (Kd.C_below HC5.out (pw_below_drewN (Below.refl _ _) _)) hc5).mono ?_)); rintro e w6 ⟨rfl, rfl⟩; exact ⟨rfl, _, rfl⟩) | (go_at_call 111; ((with_reducible refine (HMi.out _ _ _ (Kd.C_below HC5.out (pw_below_drewN (Below.refl _ _) _)) hc5).mono ?_)); rintro e w6 ⟨rfl, rfl⟩; exact ⟨rfl, _, rfl⟩))
                go_wp2
                go_ret3
                exact ⟨.inl ⟨HN.out, rfl⟩, HB.out.grown (grown_below (grown_below HGc.out HB5.out) (pw_below_drewN (Below.refl _ _) _)) HB.out.size (fun k e => by cases e; exact hR0)⟩
            · rw [if_pos (.inr hlv)] at hgb
              have HN : Aside0 (getF bs n = none) := ⟨by rw [← HG1.out, hgb]⟩
              obtain ⟨b3, a3, e3⟩ := s3
              have e30 : e3 = 0 := he3
              subst e30
              have HU : Aside0 (∀ W A c, (Kd.int .u8).C W A body.length body → body.length ≤ c → Calls Try.prog 109 #[.slice A body.length c, .int .i64 wd, .int .i64 k] W fun e w' => e = .returned (.tuple #[.slice none 0 0, .int .i64 20]) ∧ Below W.heap.size W w') := ⟨fun W A c hC hc => by
                refine (Unbits_calls A body c wd k W hC hc hwd (by omega) hbg.2 (by rw [hbg.1, hq])).mono ?_
                rintro e w' ⟨h, hb⟩
                rcases h with ⟨_, rfl⟩ | ⟨h, _⟩
                · exact ⟨rfl, hb⟩
                · exact absurd h hlv⟩
              clear hgb HG1 h1 h2 h3 hg1 hlv he3 hbg
              go_wp2_with (first | (go_at_call 108; ((with_reducible refine (HInt.out _ HRD.out).mono ?_)); rintro e wa ⟨rfl, hra, hga⟩; have HRa := Aside0.mk hra; have HGa := Aside0.mk hga; clear hra hga) | (go_at_call 52; ((with_reducible refine (HBy1.out _ HRa.out).mono ?_)); rintro e wb2 ⟨vb, rfl, hob, hrb, hgb⟩; have HRb := Aside0.mk hrb; have HOb := Aside0.mk hob; obtain ⟨A2, c2, rfl, hc2, hC2⟩ := hob.reads; obtain ⟨ad2, rfl, hx2⟩ := Kd.at_int hC2 0 (by simp) (by simp); have hx2 : wb2.cell? ad2 = some (.int .u8 (wd : Int)) := hx2; clear hC2; have HGb := Aside0.mk (grown_trans HGa.out hgb); clear hrb hob hgb) | (go_at_call 54; ((with_reducible refine (Err_calls R w.heap.size s2 _ HRb.out).mono ?_)); rintro e w2 ⟨rfl, rfl⟩))
              go_region_held3 (fun w' => w'.cell? ad2 = some (.int .u8 (wd : Int))) (first | exact hx4 | exact hx3 | exact hx2) (first | (go_at_call 110; ((with_reducible refine (HSz.out _).mono ?_)); rintro e w2 ⟨rfl, rfl⟩) | (go_at_call 52; ((with_reducible refine (HBy2.out _ HRb.out.drew).mono ?_)); rintro e wc ⟨vc, rfl, hoc, hrc, hgc⟩; obtain ⟨A3, c3, rfl, hc3, hC3⟩ := hoc.reads; have HC3 := Aside0.mk hC3; have HRc := Aside0.mk hrc; have HOc := Aside0.mk (Lx.keepR (Lx.drew HOb.out) HRb.out.drew (by decide) hgc); have hx3 := Lx.cell1 HOc.out; have HGc := Aside0.mk (grown_trans (grown_below HGb.out (Below.drew (Below.refl _ _))) hgc); clear hoc hrc hgc hC3) | (go_at_call 109; ((with_reducible refine (HU.out _ _ _ HC3.out hc3).mono ?_)); rintro e w5 ⟨rfl, hb5⟩; have HB5 := Aside0.mk hb5; have hx4 := Lx.cell1 (Lx.below HOc.out hb5); clear hb5))
              go_wp2
              go_big_quiet (first | (go_at_call 54; ((with_reducible refine (Err_calls R w.heap.size ⟨b3, a3, 0⟩ _ ((HRc.out.below HB5.out).drewN _)).mono ?_)); rintro e w6 ⟨rfl, rfl⟩; exact ⟨rfl, _, rfl⟩))
              go_wp2
              go_ret3
              exact ⟨.inl ⟨HN.out, rfl⟩, HB.out.grown (grown_below (grown_below HGc.out HB5.out) (pw_below_drewN (Below.refl _ _) _)) HB.out.size (fun k e => by cases e; exact hR0)⟩
          · rw [if_pos (.inl he3)] at hgb
            have HN : Aside0 (getF bs n = none) := ⟨by rw [← HG1.out, hgb]⟩
            have hbd := rBytes_bad (n := q) he2 (by rw [h3]; exact he3)
            rw [h3] at hbd
            obtain ⟨hb0, hq1⟩ := hbd
            have hq1 := hq1 hok2
            dsimp only at hb0
            subst hb0
            have HU : Aside0 (∀ W A c, Calls Try.prog 109 #[.slice A 0 c, .int .i64 wd, .int .i64 k] W fun e w' => e = .returned (.tuple #[.slice none 0 0, .int .i64 20]) ∧ w' = W) := ⟨fun W A c => Unbits_bad A 0 c wd k W hwd (by omega) (by omega)⟩
            have HE3 := Aside0.mk he3
            obtain ⟨b3, a3, e3⟩ := s3
            have e320 : e3 = 20 := rBytes_err he2 h3 he3
            subst e320
            clear HE3
            clear hgb HG1 h1 h2 h3 hg1
            go_wp2_with (first | (go_at_call 108; ((with_reducible refine (HInt.out _ HRD.out).mono ?_)); rintro e wa ⟨rfl, hra, hga⟩; have HRa := Aside0.mk hra; have HGa := Aside0.mk hga; clear hra hga) | (go_at_call 52; ((with_reducible refine (HBy1.out _ HRa.out).mono ?_)); rintro e wb2 ⟨vb, rfl, hob, hrb, hgb⟩; have HRb := Aside0.mk hrb; have HOb := Aside0.mk hob; obtain ⟨A2, c2, rfl, hc2, hC2⟩ := hob.reads; obtain ⟨ad2, rfl, hx2⟩ := Kd.at_int hC2 0 (by simp) (by simp); have hx2 : wb2.cell? ad2 = some (.int .u8 (wd : Int)) := hx2; clear hC2; have HGb := Aside0.mk (grown_trans HGa.out hgb); clear hrb hob hgb) | (go_at_call 54; ((with_reducible refine (Err_calls R w.heap.size s2 _ HRb.out).mono ?_)); rintro e w2 ⟨rfl, rfl⟩))
            go_region_held3 (fun w' => w'.cell? ad2 = some (.int .u8 (wd : Int))) (first | exact hx2 | exact hx3) (first | (go_at_call 110; ((with_reducible refine (HSz.out _).mono ?_)); rintro e w2 ⟨rfl, rfl⟩) | (go_at_call 52; ((with_reducible refine (HBy2.out _ HRb.out.drew).mono ?_)); rintro e wc ⟨vc, rfl, hoc, hrc, hgc⟩; obtain ⟨A3, c3, rfl, hc3, hC3⟩ := hoc.reads; have HC3 := Aside0.mk hC3; have HRc := Aside0.mk hrc; have HOc := Aside0.mk (Lx.keepR (Lx.drew HOb.out) HRb.out.drew (by decide) hgc); have hx3 := Lx.cell1 HOc.out; have HGc := Aside0.mk (grown_trans (grown_below HGb.out (Below.drew (Below.refl _ _))) hgc); clear hoc hrc hgc hC3) | (go_at_call 109; ((with_reducible refine (HU.out _ _ _).mono ?_)); rintro e w5 ⟨rfl, rfl⟩))
            go_wp2
            go_big_quiet (first | (go_at_call 54; ((with_reducible refine (Err_calls R w.heap.size ⟨b3, a3, 20⟩ _ (HRc.out.drewN _)).mono ?_)); rintro e w6 ⟨rfl, rfl⟩; exact ⟨rfl, _, rfl⟩))
            go_wp2
            go_ret3
            exact ⟨.inl ⟨HN.out, rfl⟩, HB.out.grown (grown_below HGc.out (pw_below_drewN (Below.refl _ _) _)) HB.out.size (fun k e => by cases e; exact hR0)⟩
      · rw [if_pos (.inl he2)] at hgb
        have HN : Aside0 (getF bs n = none) := ⟨by rw [← HG1.out, hgb]⟩
        have HE2 := Aside0.mk he2
        clear hgb HG1 h1 h2
        go_wp2_with (first | (go_at_call 108; ((with_reducible refine (HInt.out _ HRD.out).mono ?_)); rintro e wa ⟨rfl, hra, hga⟩; have HRa := Aside0.mk hra; have HGa := Aside0.mk hga; clear hra hga) | (go_at_call 52; ((with_reducible refine (HBy1.out _ HRa.out).mono ?_)); rintro e wb2 ⟨vb, rfl, hob, hrb, hgb⟩; have HRb := Aside0.mk hrb; have HOb := Aside0.mk hob; have HGb := Aside0.mk (grown_trans HGa.out hgb); clear hrb hob hgb) | (go_at_call 54; ((with_reducible refine (Err_calls R w.heap.size s2 _ HRb.out).mono ?_)); rintro e w2 ⟨rfl, rfl⟩))
        go_ret3
        exact ⟨.inl ⟨HN.out, rfl⟩, HB.out.grown HGb.out HB.out.size (fun k e => by cases e; exact hR0)⟩
    · have e0 : nr = 0 := by omega
      have HF : Aside0 (getF bs n = some (l, st)) := ⟨by
        have h1 := HG.out
        have h2 : gk = 0 := by have := HK.out; omega
        rw [h2, getGo] at h1
        exact h1.symm⟩
      have hge : n ≤ l.length := by omega
      have hle := HRD.out.ok.le
      rw [HS.out] at hle
      have hww : IntKind.i64.wrap ((bs.length : Int) - ((st.bs.length : Int) - st.at')) = (st.at' : Int) := by rw [HS.out, IntKind.wrap_i64]; omega
      clear hlt e0 HG
      go_wp2_with (first | (go_at_call 112; ((with_reducible refine (ClipI_calls A1 l.length c1 _ hc1 HM1.out).mono ?_)); rintro e wa ⟨rfl, rfl⟩) | (go_at_call 88; ((with_reducible refine (Left_calls R w.heap.size st _ HRD.out).mono ?_)); rintro e wc ⟨rfl, hbc⟩; have HBc := Aside0.mk hbc; clear hbc))
      go_ret3
      exact ⟨.inr ⟨l, st, _, HF.out, rfl, Lax.clip (Lx.below HL.out HBc.out)⟩, HB.out.trans (HBc.out.mono HB.out.size)⟩
end Go.Proofs.Ytimlgpfcgklddaa.P
/-
A packed block is read back.
-/
namespace Go.Proofs.Ytimlgpfcgklddaa
open Go.RowKit
theorem unz_zz (n : Int) : unz (zz n) = n := by unfold unz zz; split <;> split <;> omega
theorem rInt_back (pre rest : List Int) (x : Int) (h0 : -9223372036854775808 ≤ x) (h1 : x ≤ 9223372036854775807) : rInt ⟨pre ++ (uv (zz x) ++ rest), pre.length, 0⟩ = (x, ⟨pre ++ (uv (zz x) ++ rest), pre.length + (uv (zz x)).length, 0⟩) := by
  have hz := zz_range h0 h1
  unfold rInt rNum took
  simp only [List.drop_left]
  rw [if_neg (by simp), numF_uv hz.1 hz.2, if_neg (by omega)]
  simp only [unz_zz, Int.toNat_natCast]
theorem rBytes_back (pre xs rest : List Int) : rBytes ⟨pre ++ (xs ++ rest), pre.length, 0⟩ (xs.length : Int) = (xs, ⟨pre ++ (xs ++ rest), pre.length + xs.length, 0⟩) := by
  unfold rBytes
  simp only [List.drop_left]
  rw [if_neg (by simp), if_neg (by simp only [List.length_append]; omega)]
  simp only [Int.toNat_natCast, List.take_left]
end Go.Proofs.Ytimlgpfcgklddaa
/-
block.posts' take: a row off the bytes that are left.
-/
namespace Go.Proofs.Ytimlgpfcgklddaa.P
open Go.RowKit Go.Shelf Go.Proofs.YtimlgpfcgklddaaW.PrintWords Go.Proofs.YtimlgpfcgklddaaW.PrintLast Go.Proofs.YtimlgpfcgklddaaW.PrintMore
set_option linter.unusedVariables false
set_option linter.unusedSimpArgs false
set_option maxRecDepth 100000 in
set_option maxHeartbeats 1000000 in
theorem takeRow_none (B1 : Nat) (A : Option Addr) (bs : List Int) (c n : Nat) (w : World) (hb : w.heap[B1]? = some (.cells #[.slice A bs.length c] 25 (0, 0))) (h : (Kd.int .u8).C w A bs.length bs) (hc : bs.length ≤ c) (hl : bs.length ≤ 140737488355328) (hr : ∀ x ∈ bs, 0 ≤ x ∧ x < 256) (hn : n ≤ 1048576) (hg : getF bs n = none) :
    Calls Try.prog 85 #[.int .i64 n, .pointer (some ⟨B1, 0, none⟩)] w fun e w' => e = .returned (.slice none 0 0) ∧ w'.heap[B1]? = some (.cells #[.slice none 0 0] 25 (0, 0)) ∧ w.grownBy w' (some B1) := by
  have HG : Aside0 (Calls Try.prog 86 #[.slice A bs.length c, .int .i64 n] w fun e w' => e = .returned (.tuple #[.slice none 0 0, .int .i64 0, .int .i64 20]) ∧ Below w.heap.size w w') := ⟨by
    refine (Get_calls A bs c n w h hc hl hr hn).mono ?_
    rintro e w' ⟨h1, h2⟩
    rcases h1 with ⟨_, rfl⟩ | ⟨l, st, v, h1, _⟩
    · exact ⟨rfl, h2⟩
    · rw [hg] at h1; cases h1⟩
  have HBK := Aside0.mk hb
  have hc0 := blk_cell hb 0
  clear h hr hg hb
  go_enter Try.func85, Try.ntmps85
  go_wp2_with (go_at_call 86; ((with_reducible refine HG.out.mono ?_)); rintro e w1 ⟨rfl, hb1⟩; have hx1 := blk_below HBK.out hb1; have hc1 := blk_cell hx1 0; have hf1 := blk_frozen hx1 0; have HB := Aside0.mk hb1; have HX := Aside0.mk hx1; clear hb1 hx1)
  go_ret
  exact ⟨rfl, blk_set HX.out 0 _, below_set HB.out B1 0 _⟩
set_option maxRecDepth 100000 in
set_option maxHeartbeats 1000000 in
theorem takeRow_some (B1 : Nat) (A : Option Addr) (bs : List Int) (c n : Nat) (w : World) (hb : w.heap[B1]? = some (.cells #[.slice A bs.length c] 25 (0, 0))) (h : (Kd.int .u8).C w A bs.length bs) (hc : bs.length ≤ c) (hl : bs.length ≤ 140737488355328) (hr : ∀ x ∈ bs, 0 ≤ x ∧ x < 256) (hn : n ≤ 1048576) (l : List Int) (st : RSt) (hg : getF bs n = some (l, st)) (hle : st.at' ≤ bs.length) :
    Calls Try.prog 85 #[.int .i64 n, .pointer (some ⟨B1, 0, none⟩)] w fun e w' => ∃ v, e = .returned v ∧ Lx .i64 2 w' w.heap.size v l ∧ w'.heap[B1]? = some (.cells #[.slice (if c = st.at' then A else Option.map (fun x => x.add st.at') A) (bs.length - st.at') (c - st.at')] 25 (0, 0)) ∧ w.grownBy w' (some B1) := by
  have HG : Aside0 (Calls Try.prog 86 #[.slice A bs.length c, .int .i64 n] w fun e w' => ∃ v, e = .returned (.tuple #[v, .int .i64 (st.at' : Int), .int .i64 0]) ∧ Lx .i64 2 w' w.heap.size v l ∧ Below w.heap.size w w') := ⟨by
    refine (Get_calls A bs c n w h hc hl hr hn).mono ?_
    rintro e w' ⟨h1, h2⟩
    rcases h1 with ⟨h1, _⟩ | ⟨l', st', v, h1, rfl, h3⟩
    · rw [hg] at h1; cases h1
    · rw [hg] at h1
      injection h1 with h1
      injection h1 with e1 e2
      subst e1; subst e2
      exact ⟨v, rfl, h3, h2⟩⟩
  have HBK := Aside0.mk hb
  have hc0 := blk_cell hb 0
  obtain ⟨a, ha⟩ : ∃ a, st.at' = a := ⟨_, rfl⟩
  rw [ha] at hle HG ⊢
  clear h hr hg hb ha
  go_enter Try.func85, Try.ntmps85
  go_wp2_with (go_at_call 86; ((with_reducible refine HG.out.mono ?_)); rintro e w1 ⟨v1, rfl, ho1, hb1⟩; have hx1 := blk_below HBK.out hb1; have hc1 := blk_cell hx1 0; have hf1 := blk_frozen hx1 0; have HB := Aside0.mk hb1; have HX := Aside0.mk hx1; have HO := Aside0.mk ho1; clear hb1 hx1 ho1)
  all_goals (
    have hlt := blk_lt HBK.out
    go_ret
    exact ⟨_, rfl, Lx.far (p := ⟨B1, 0, none⟩) HO.out (fun j hj => by have := Lax.base_le HO.out j hj; show j ≠ B1; omega) _, blk_set HX.out 0 _, below_set HB.out B1 0 _⟩)
end Go.Proofs.Ytimlgpfcgklddaa.P
/-
Rows of posts of a call's own: read, moved, appended to.
-/
namespace Go.Proofs.Ytimlgpfcgklddaa
open Go.RowKit Go.Proofs.YtimlgpfcgklddaaW.PrintWords
def pxR (w : World) (base : Nat) (p : P.S58) (cs : List Value) : Prop := ∃ v1, cs = [.int .i64 p.f0, v1] ∧ Lx .i64 3 w base v1 p.f1
/-- A row of posts of one's own. -/
def Px (w : World) (base : Nat) (v : Value) (ps : List P.S58) : Prop := ∃ cs, Lax w base 58 2 v ps.length cs ∧ Reps (pxR w base) 2 ps cs
namespace Px
section
variable {w w1 : World} {base : Nat} {v : Value} {ps : List P.S58}
theorem nil (w : World) (base : Nat) : Px w base (.slice none 0 0) [] := ⟨[], Lax.nil w base 58 2, Reps.none _ _⟩
theorem below (h : Px w base v ps) (hb : Below w.heap.size w w1) : Px w1 base v ps := by
  obtain ⟨cs, h1, h2⟩ := h
  exact ⟨cs, h1.below hb, h2.imp_ fun p c ⟨v1, e, h⟩ => ⟨v1, e, Lx.below h hb⟩⟩
theorem lower {base' : Nat} (h : Px w base v ps) (hb : base' ≤ base) : Px w base' v ps := by
  obtain ⟨cs, h1, h2⟩ := h
  exact ⟨cs, h1.lower hb, h2.imp_ fun p c ⟨v1, e, h⟩ => ⟨v1, e, Lx.lower h hb⟩⟩
theorem grown (h : Px w base v ps) {row : Option Nat} (hg : w.grownBy w1 row) (hne : ∀ k cells, row = some k → w.heap[k]? = some (.cells cells 58 (0, 0)) → False) (hne3 : ∀ k cells, row = some k → w.heap[k]? = some (.cells cells 3 (0, 0)) → False) : Px w1 base v ps := by
  obtain ⟨cs, h1, h2⟩ := h
  refine ⟨cs, h1.grown hg fun k hk e => ?_, h2.imp_ fun p c ⟨v1, e, h⟩ => ⟨v1, e, Lax.grown h hg fun k hk e => ?_⟩⟩
  · obtain ⟨cells, hc⟩ := h1.typed k hk
    exact hne k cells e.symm hc
  · obtain ⟨cells, hc⟩ := Lax.typed h k hk
    exact hne3 k cells e.symm hc
theorem block (h : Px w base v ps) : ∀ k, v.ownBlock = some k → base ≤ k ∧ k < w.heap.size ∧ ∃ cells, w.heap[k]? = some (.cells cells 58 (0, 0)) := by
  obtain ⟨cs, h1, h2⟩ := h
  exact fun k hk => ⟨h1.base_le k hk, h1.lt k hk, h1.typed k hk⟩
theorem reads (h : Px w base v ps) : ∃ A c, v = .slice A ps.length c ∧ ps.length ≤ c ∧ Kd.C P.k58 w A ps.length ps := by
  obtain ⟨cs, h1, h2⟩ := h
  have hlen := h1.1
  rcases h1.2 with ⟨rfl, hn⟩ | ⟨g, cap, cur, rfl, hb, hg, hn, hc, hs, ht⟩
  · have : ps = [] := List.eq_nil_of_length_eq_zero hn
    subst this
    exact ⟨none, 0, rfl, Nat.le_refl _, Kd.C_nil _ _⟩
  · refine ⟨_, _, rfl, hn, ⟨rfl, h1.max, fun hp => ⟨_, rfl, fun j p hj => ?_⟩⟩⟩
    obtain ⟨v1, e1, hx⟩ := h2.2 j p hj
    obtain ⟨A1, c1, rfl, hl1, hC1⟩ := hx.reads
    refine ⟨[.int .i64 p.f0, .slice A1 p.f1.length c1], rfl, P.k58_mk w p hl1 hC1, fun i u hu => ?_⟩
    rw [← e1] at hu
    rw [List.getElem?_take] at hu
    split at hu
    · rw [List.getElem?_drop] at hu
      exact h1.cells (g := g) rfl (j * 2 + i) u hu
    · cases hu
end
section
variable {Pg : Program} {ops : Array Oper} {rest : List Oper} {o : Oper} {a : Act} {Q : Exit → Act → World → Prop}
theorem run_row {W : World} (base : Nat) (t ty : TypeId)
    (ht : Pg.underlying t = some (.slice 58)) (hinfo : (Pg.info? 58).map (fun i => (i.zero, i.size, i.bytes)) = some (some (.agg #[(.int .i64 0), (.slice none 0 0)]), 2, 32))
    (v : Value) (xs ys : List P.S58) (A : Option Addr) (m c : Nat) (cs' : List Value)
    (HO : Px W base v xs) (hm : ys.length = m) (hreps : Reps (pxR W base) 2 ys cs') (hcells : 0 < m → ∃ ad, A = some ad ∧ ∀ j u, cs'[j]? = some u → W.cell? (ad.add j) = some u) (hbase : base ≤ W.heap.size) (hl : (xs.length + m) * 32 ≤ 140737488355328) :
    ∃ v1 w1, (Builtin.append_ #[t, t] ty #[v, .slice A m c]).run Pg W = .ok v1 w1 ∧ Px w1 base v1 (xs ++ ys) ∧ W.grownBy w1 v.ownBlock ∧ (v1.ownBlock = v.ownBlock ∨ v1.ownBlock = some W.heap.size) := by
  obtain ⟨i0, hi, hzz⟩ := Option.map_eq_some_iff.1 hinfo
  simp only [Prod.mk.injEq] at hzz
  obtain ⟨hz0, hz1, hz2⟩ := hzz
  obtain ⟨cs, HO', hr⟩ := HO
  rcases A with _ | ad
  · have h0 : m = 0 := by
      rcases Nat.eq_zero_or_pos m with h0 | h0
      · exact h0
      · obtain ⟨ad, h, _⟩ := hcells h0
        cases h
    subst h0
    obtain rfl : ys = [] := List.eq_nil_of_length_eq_zero hm
    refine ⟨v, W, ?_, by simpa using ⟨cs, HO', hr⟩, World.grownBy.refl W _, .inl rfl⟩
    rcases HO'.2 with ⟨rfl, hn⟩ | ⟨g, cap, cur, rfl, _, _, hnc, _⟩
    · simp [Builtin.append_, run_underlying ht, sizeOf, typeInfo, hi, Builtin.lenOf, Builtin.firstCells]
    · simp [Builtin.append_, run_underlying ht, sizeOf, typeInfo, hi, Builtin.lenOf, Builtin.firstCells, hnc, storeCells]
  · have hc' : ∀ j u, cs'[j]? = some u → W.cell? (ad.add j) = some u := by
      intro j u hu
      have hj := (List.getElem?_eq_some_iff.1 hu).1
      have := hreps.1
      obtain ⟨ad', e, h⟩ := hcells (by omega)
      injection e with e
      subst e
      exact h j u hu
    have hone : ∀ u ∈ cs', u.oneCell' = true := by
      intro u hu
      obtain ⟨j, hj, rfl⟩ := List.mem_iff_getElem.1 hu
      have hcl := hreps.1
      have hj2 : j / 2 < ys.length := by omega
      obtain ⟨v1, e1, hx⟩ := hreps.2 (j / 2) _ (List.getElem?_eq_getElem hj2)
      have e2 : (cs'.drop (j / 2 * 2)).take 2 = [cs'[j / 2 * 2]'(by omega), cs'[j / 2 * 2 + 1]'(by omega)] := by
        apply List.ext_getElem?
        intro k
        rw [List.getElem?_take, List.getElem?_drop]
        match k with
        | 0 => rw [if_pos (by decide), Nat.add_zero, List.getElem?_eq_getElem (by omega)]; rfl
        | 1 => rw [if_pos (by decide), List.getElem?_eq_getElem (by omega)]; rfl
        | k + 2 => rw [if_neg (by omega)]; rfl
      rw [e2] at e1
      injection e1 with e3 e4
      injection e4 with e4 _
      rcases Nat.mod_two_eq_zero_or_one j with hm | hm
      · have : j / 2 * 2 = j := by omega
        simp only [this] at e3
        rw [e3]; rfl
      · have : j / 2 * 2 + 1 = j := by omega
        simp only [this] at e4
        rw [e4]
        obtain ⟨A', c', rfl, _⟩ := hx.reads
        rfl
    obtain ⟨v1, w1, hrun, h2, h3, h5⟩ := Lax.run_append (P := Pg) W base t ty 58 i0 _ 2 32 ht hi hz0 hz1 hz2 rfl (by omega) v xs.length cs HO' ad m c cs' (by rw [hreps.1, hm]) hc' hone (by simp only [maxLen]; omega) hl hbase
    have hne : ∀ {p c}, pxR W base p c → pxR w1 base p c := by
      rintro p c ⟨u, e, hx⟩
      refine ⟨u, e, Lax.grown hx h3 fun k hk e => ?_⟩
      obtain ⟨c1, h1⟩ := Lax.typed hx k hk
      obtain ⟨c2, h2⟩ := HO'.typed k e.symm
      rw [h1] at h2
      injection h2 with h2
      injection h2 with _ h2
      exact absurd h2 (by decide)
    refine ⟨v1, w1, hrun, ⟨cs ++ cs', by rw [List.length_append, hm]; exact h2, ?_⟩, h3, h5⟩
    refine ⟨by rw [List.length_append, List.length_append, hr.1, hreps.1, Nat.add_mul], fun j p hj => ?_⟩
    rcases Nat.lt_or_ge j xs.length with hlt | hge
    · rw [List.getElem?_append_left hlt] at hj
      have h6 := hr.2 j p hj
      have h7 : j * 2 + 2 ≤ cs.length := by rw [hr.1]; omega
      rw [List.drop_append_of_le_length (by omega), List.take_append_of_le_length (by rw [List.length_drop]; omega)]
      exact hne h6
    · rw [List.getElem?_append_right hge] at hj
      have h6 := hreps.2 _ p hj
      rw [List.drop_append, List.drop_eq_nil_of_le (by rw [hr.1]; omega), List.nil_append, hr.1, ← Nat.sub_mul]
      exact hne h6
/-- append(v, ys...), ys of one's own; behind 'at_builtin'. -/
theorem append_row {w0 W : World} (base : Nat) (hgd : o.guard = none) (s x : Operand) (t : TypeId)
    (ho : o.op = .call { callee := .builtin .append, args := #[s, x], argTypes := #[t, t] })
    (ht : Pg.underlying t = some (.slice 58)) (hinfo : (Pg.info? 58).map (fun i => (i.zero, i.size, i.bytes)) = some (some (.agg #[(.int .i64 0), (.slice none 0 0)]), 2, 32))
    (v v' : Value) (xs ys : List P.S58) (hs : a.eval s = v) (hx : a.eval x = v')
    (HO : Px W base v xs) (HR : Px W base v' ys) (HB : Below base w0 W) (hbase : base ≤ W.heap.size) (hl : (xs.length + ys.length) * 32 ≤ 140737488355328)
    (h : ∀ v1 w1, Px w1 base v1 (xs ++ ys) → Below base w0 w1 → W.grownBy w1 v.ownBlock → (v1.ownBlock = v.ownBlock ∨ ∃ b, v1.ownBlock = some b ∧ W.heap.size ≤ b) → wpList Pg ops Q rest (a.put o.dst v1) w1) :
    wpList Pg ops Q (o :: rest) a W := by
  obtain ⟨cs', h1, h2⟩ := HR
  obtain ⟨A, c, e⟩ : ∃ A c, v' = .slice A ys.length c := by obtain ⟨A, c, e, _⟩ := Lax.slice h1; exact ⟨A, c, e⟩
  subst e
  obtain ⟨v1, w1, hr, hown, hg, hat⟩ := run_row (Pg := Pg) base t o.type ht hinfo v xs ys A ys.length c cs' HO rfl h2 (fun hp => by
    rcases h1.2 with ⟨he, hn⟩ | ⟨g, cap, cur, he, _⟩
    · omega
    · injection he with he _ _
      subst he
      exact ⟨_, rfl, fun j u hu => h1.cells (g := g) rfl j u hu⟩) hbase hl
  refine wpList_plain hgd fun K hK => ?_
  unfold Oper.wp execOp
  simp only [ho, resolve, invoke, builtin, Sem.run_bind, Sem.run_pure, Result.andThen_ok, List.map_toArray, List.map_cons, List.map_nil, hs, hx, hr]
  refine hK _ _ (h v1 w1 hown (HB.grown hg hbase (fun k hk => (block HO k hk).1)) hg ?_)
  rcases hat with hat | hat
  · exact .inl hat
  · exact .inr ⟨_, hat, Nat.le_refl _⟩
/-- append(v, y); behind 'at_builtin'; the goal's world is 'W.alloc' of the variadic's box. -/
theorem append_one {w0 W : World} (base : Nat) (hgd : o.guard = none) (s x : Operand) (t : TypeId)
    (ho : o.op = .call { callee := .builtin .append, args := #[s, x], argTypes := #[t, t] })
    (ht : Pg.underlying t = some (.slice 58)) (hinfo : (Pg.info? 58).map (fun i => (i.zero, i.size, i.bytes)) = some (some (.agg #[(.int .i64 0), (.slice none 0 0)]), 2, 32))
    (v : Value) (xs : List P.S58) (y : P.S58) (u : Value) (gN : Nat) (hN : gN = W.heap.size) (hs : a.eval s = v) (hx : a.eval x = .slice (some ⟨gN, 0, none⟩) 1 1)
    (HO : Px W base v xs) (HY : Lx .i64 3 W base u y.f1) (HB : Below base w0 W) (hbase : base ≤ W.heap.size) (hl : (xs.length + 1) * 32 ≤ 140737488355328)
    (h : ∀ v1 w1, Px w1 base v1 (xs ++ [y]) → Below base w0 w1 → W.grownBy w1 v.ownBlock → (v1.ownBlock = v.ownBlock ∨ ∃ b, v1.ownBlock = some b ∧ W.heap.size ≤ b) → wpList Pg ops Q rest (a.put o.dst v1) w1) :
    wpList Pg ops Q (o :: rest) a (W.alloc (.cells #[.int .i64 y.f0, u] 58)) := by
  subst hN
  have hl0 : xs.length ≤ 9223372036854775807 := by omega
  have hreps : Reps (pxR (W.alloc (.cells #[.int .i64 y.f0, u] 58)) base) 2 [y] [.int .i64 y.f0, u] := ⟨rfl, fun j p hj => by
    match j with
    | 0 => simp only [List.getElem?_cons_zero, Option.some.injEq] at hj; subst hj; exact ⟨u, rfl, HY.alloc _⟩
    | j + 1 => simp at hj⟩
  have hO : Px (W.alloc (.cells #[.int .i64 y.f0, u] 58)) base v xs := HO.below (below_alloc (Below.refl _ _) _)
  obtain ⟨v1, w1, hr, hown, hg, hat⟩ := run_row (Pg := Pg) base t o.type ht hinfo v xs [y] (some ⟨W.heap.size, 0, none⟩) 1 1 _ hO rfl hreps (fun _ => ⟨_, rfl, fun j u' hu => by
    rw [add_plain]
    have hb := blk_cell (blk_new W (.cells #[.int .i64 y.f0, u] 58)) j
    rw [hb]
    simpa using hu⟩) (by simp; omega) (by simpa using hl)
  refine wpList_plain hgd fun K hK => ?_
  unfold Oper.wp execOp
  simp only [ho, resolve, invoke, builtin, Sem.run_bind, Sem.run_pure, Result.andThen_ok, List.map_toArray, List.map_cons, List.map_nil, hs, hx, hr]
  refine hK _ _ (h v1 w1 hown ((HB.alloc hbase _).grown hg (by simp; omega) (fun k hk => (block HO k hk).1)) (World.grownBy.trans (World.grownBy_alloc W _ _) hg) ?_)
  rcases hat with hat | hat
  · exact .inl hat
  · exact .inr ⟨_, hat, by simp⟩
end
end Px
end Go.Proofs.Ytimlgpfcgklddaa
/-
What block.posts answers: the plain words.
-/
namespace Go.Proofs.Ytimlgpfcgklddaa
/-- Running sums. -/
def sums : Int → List Int → List Int
  | _, [] => []
  | a, x :: r => (a + x) :: sums (a + x) r
theorem sums_length : ∀ (l : List Int) (a : Int), (sums a l).length = l.length
  | [], _ => rfl
  | x :: r, a => by rw [sums, List.length_cons, List.length_cons, sums_length r]
theorem sums_snoc : ∀ (l : List Int) (a x : Int), sums a (l ++ [x]) = sums a l ++ [a + l.sum + x]
  | [], a, x => by simp [sums]
  | y :: r, a, x => by
    rw [List.cons_append, sums, sums, sums_snoc r, List.cons_append, List.sum_cons]
    congr 3
    omega
/-- How many places the counts ask. -/
def allGo : Int → List Int → Option Int
  | a, [] => some a
  | a, f :: r => if f < 0 ∨ 1048576 - a ≤ f then none else allGo (a + (f + 1)) r
/-- Does a number leave the places' range? -/
def offB (x : Int) : Bool := decide (x < 0 ∨ 1048576 < x)
def pGo : List Int → List Int → List Int → Int → List P.S58 → Option (List P.S58 × Int)
  | [], _, _, last, out => some (out, last)
  | d :: ds, fs, ps, last, out =>
    if d < 0 ∨ 16384 ≤ d then none else
    if (ps.take (fs.headD 0 + 1).toNat).any offB = true then none else
    pGo ds fs.tail (ps.drop (fs.headD 0 + 1).toNat) (last + 1 + d) (out ++ [⟨last + 1 + d, sums 0 (ps.take (fs.headD 0 + 1).toNat)⟩])
/-- What a take hands back; what it leaves. -/
def rowOf (bs : List Int) (n : Nat) : List Int := match getF bs n with | none => [] | some (l, _) => l
def restOf (bs : List Int) (n : Nat) : List Int := match getF bs n with | none => [] | some (_, s) => bs.drop s.at'
def postsF (bs : List Int) (ahead last : Int) (n : Nat) : List P.S58 × Bool :=
  if (rowOf bs n).length ≠ n ∨ (rowOf (restOf bs n) n).length ≠ n then ([], false) else
  match allGo 0 (rowOf (restOf bs n) n) with
  | none => ([], false)
  | some all =>
  if ((rowOf (restOf (restOf bs n) n) all.toNat).length : Int) ≠ all ∨ restOf (restOf (restOf bs n) n) all.toNat ≠ [] then ([], false) else
  match pGo (rowOf bs n) (rowOf (restOf bs n) n) (rowOf (restOf (restOf bs n) n) all.toNat) ahead [] with
  | none => ([], false)
  | some (out, l) => (out, l == last)
def sumF (l : List Int) : Int := (l.map (· + 1)).sum
theorem allGo_sum : ∀ (l : List Int) (a b : Int), allGo a l = some b → 0 ≤ a → a ≤ 1048576 → b = a + sumF l ∧ b ≤ 1048576 ∧ ∀ f ∈ l, 0 ≤ f ∧ f < 1048576
  | [], a, b, h, h0, h1 => by
    rw [allGo] at h
    injection h with h
    subst h
    refine ⟨by simp [sumF], h1, fun f hf => by cases hf⟩
  | f :: r, a, b, h, h0, h1 => by
    rw [allGo] at h
    split at h
    · cases h
    · rename_i hc
      have ih := allGo_sum r _ _ h (by omega) (by omega)
      refine ⟨?_, ih.2.1, fun g hg => ?_⟩
      · rw [ih.1]
        simp only [sumF, List.map_cons, List.sum_cons]
        omega
      · rcases List.mem_cons.1 hg with rfl | hg
        · omega
        · exact ih.2.2 g hg
theorem getBlk_facts {st st' : RSt} {k : Nat} {xs : List Int} (h : getBlk st k = some (xs, st')) (hok : st.ok) : xs.length = k ∧ st'.ok ∧ st'.bs = st.bs := by
  unfold getBlk at h
  dsimp only at h
  split at h
  · cases h
  · split at h
    · cases h
    · split at h
      · cases h
      · injection h with h
        injection h with h1 h2
        subst h1; subst h2
        refine ⟨by rw [List.length_map]; simp [unbitsL], rBytes_ok (rBytes_ok (rInt_ok hok) 1) _, ?_⟩
        rw [rBytes_bs, rBytes_bs, rInt_bs]
theorem getGo_facts : ∀ (m : Nat) {st st' : RSt} {n : Nat} {l xs : List Int}, getGo m st n l = some (xs, st') → st.ok → n ≤ m * 128 → xs.length = l.length + n ∧ st'.ok ∧ st'.bs = st.bs
  | 0, st, st', n, l, xs, h, hok, hn => by
    rw [getGo] at h
    injection h with h
    injection h with h1 h2
    subst h1; subst h2
    exact ⟨by omega, hok, rfl⟩
  | m + 1, st, st', n, l, xs, h, hok, hn => by
    rw [getGo] at h
    split at h
    · cases h
    · rename_i ys s1 he
      have h1 := getBlk_facts he hok
      have ih := getGo_facts m h h1.2.1 (by omega)
      rw [ih.2.2, h1.2.2]
      refine ⟨?_, ih.2.1, rfl⟩
      rw [ih.1, List.length_append, h1.1]
      omega
theorem getF_facts {bs : List Int} {n : Nat} {xs : List Int} {st : RSt} (h : getF bs n = some (xs, st)) (hl : bs.length ≤ 140737488355328) (hr : ∀ x ∈ bs, 0 ≤ x ∧ x < 256) : xs.length = n ∧ st.at' ≤ bs.length := by
  have := getGo_facts _ h ⟨by simp, hl, hr⟩ (by omega)
  refine ⟨by simpa using this.1, ?_⟩
  have h1 := this.2.1.le
  rw [this.2.2] at h1
  exact h1
theorem getF_nil {n : Nat} (h : 1 ≤ n) : getF [] n = none := by
  unfold getF
  obtain ⟨m, hm⟩ : ∃ m, (n + 127) / 128 = m + 1 := ⟨(n + 127) / 128 - 1, by omega⟩
  rw [hm, getGo]
  have : getBlk ⟨[], 0, 0⟩ (min n 128) = none := by
    unfold getBlk
    dsimp only
    rw [if_pos]
    left
    simp [rInt, rNum, took, rBytes, numF, numGo]
  rw [this]
theorem restOf_ok {bs : List Int} (n : Nat) (hl : bs.length ≤ 140737488355328) (hr : ∀ x ∈ bs, 0 ≤ x ∧ x < 256) : (restOf bs n).length ≤ 140737488355328 ∧ ∀ x ∈ restOf bs n, 0 ≤ x ∧ x < 256 := by
  unfold restOf
  split
  · exact ⟨by simp, fun x hx => by cases hx⟩
  · refine ⟨by rw [List.length_drop]; omega, fun x hx => hr x (List.mem_of_mem_drop hx)⟩
theorem rowOf_len {bs : List Int} (n : Nat) (hl : bs.length ≤ 140737488355328) (hr : ∀ x ∈ bs, 0 ≤ x ∧ x < 256) : (rowOf bs n).length ≤ n := by
  unfold rowOf
  split
  · simp
  · rename_i l s h
    have := getF_facts h hl hr
    omega
end Go.Proofs.Ytimlgpfcgklddaa
namespace Go.Proofs.Ytimlgpfcgklddaa.P
open Go.RowKit Go.Shelf Go.Proofs.YtimlgpfcgklddaaW.PrintWords Go.Proofs.YtimlgpfcgklddaaW.PrintLast Go.Proofs.YtimlgpfcgklddaaW.PrintMore
set_option linter.unusedVariables false
set_option linter.unusedSimpArgs false
/-- A take, whatever it finds. -/
theorem takeRow_calls (w0 : World) (B1 : Nat) (A : Option Addr) (bs : List Int) (c n : Nat) (w : World) (hb : w.heap[B1]? = some (.cells #[.slice A bs.length c] 25 (0, 0))) (h0 : (Kd.int .u8).C w0 A bs.length bs) (hB : Below w0.heap.size w0 w) (hc : bs.length ≤ c) (hl : bs.length ≤ 140737488355328) (hr : ∀ x ∈ bs, 0 ≤ x ∧ x < 256) (hn : n ≤ 1048576) :
    Calls Try.prog 85 #[.int .i64 n, .pointer (some ⟨B1, 0, none⟩)] w fun e w' => ∃ v A' c', e = .returned v ∧ Lx .i64 2 w' w.heap.size v (rowOf bs n) ∧ w'.heap[B1]? = some (.cells #[.slice A' (restOf bs n).length c'] 25 (0, 0)) ∧ (restOf bs n).length ≤ c' ∧ (Kd.int .u8).C w0 A' (restOf bs n).length (restOf bs n) ∧ w.grownBy w' (some B1) := by
  have h := Kd.C_below h0 hB
  cases hg : getF bs n with
  | none =>
    refine (takeRow_none B1 A bs c n w hb h hc hl hr hn hg).mono ?_
    rintro e w' ⟨rfl, h1, h2⟩
    have e1 : rowOf bs n = [] := by unfold rowOf; rw [hg]
    have e2 : restOf bs n = [] := by unfold restOf; rw [hg]
    rw [e1, e2]
    exact ⟨_, _, _, rfl, Lx.nil _ _ _ _, h1, Nat.le_refl _, Kd.C_nil _ _, h2⟩
  | some r =>
    obtain ⟨l, st⟩ := r
    have hf := getF_facts hg hl hr
    refine (takeRow_some B1 A bs c n w hb h hc hl hr hn l st hg hf.2).mono ?_
    rintro e w' ⟨v, rfl, h1, h2, h3⟩
    have e1 : rowOf bs n = l := by unfold rowOf; rw [hg]
    have e2 : restOf bs n = bs.drop st.at' := by unfold restOf; rw [hg]
    rw [e1, e2]
    refine ⟨v, (if c = st.at' then A else Option.map (fun x => x.add st.at') A), c - st.at', rfl, h1, by rw [List.length_drop]; exact h2, by rw [List.length_drop]; omega, C_from h0 hc _ hf.2, h3⟩
set_option maxHeartbeats 1000000 in
theorem ClipN_calls (A : Option Addr) (n c : Nat) (w : World) (hn : n ≤ c) (hm : n ≤ 9223372036854775807) :
    Calls Try.prog 87 #[.slice A n c] w fun e w' => e = .returned (.slice A n n) ∧ w = w' := by
  go_enter Try.func87, Try.ntmps87
  go_wp2
  go_ret
  exact ⟨rfl, rfl⟩
end Go.Proofs.Ytimlgpfcgklddaa.P
