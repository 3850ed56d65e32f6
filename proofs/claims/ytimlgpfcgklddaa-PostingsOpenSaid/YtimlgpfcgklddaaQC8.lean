/-
Texts of this seat, laid together: C8.
-/
import Derived.Deep.RegionHeld3
import Derived.BigQuiet
import Derived.Test.YtimlgpfcgklddaaQA15
import Derived.Test.YtimlgpfcgklddaaQC6
namespace Go.Proofs.Ytimlgpfcgklddaa
open Go.RowKit
/-- A block of k numbers. -/
def getBlk (st : RSt) (k : Nat) : Option (List Int × RSt) :=
  let a := rInt st
  let b := rBytes a.2 1
  if b.2.e ≠ 0 ∨ b.1.getD 0 0 > 64 then none else
  let wd := (b.1.getD 0 0).toNat
  let d := rBytes b.2 (((wd * k + 7) / 8 : Nat) : Int)
  if d.2.e ≠ 0 ∨ leVal d.1 / 2 ^ (wd * k) ≠ 0 then none else
  let ab := unbitsL (leVal d.1) wd k
  if widthOf ab ≠ wd ∨ minI ab ≠ 0 ∨ ∃ u ∈ ab, a.1 + u > 9223372036854775807 then none else some (ab.map (a.1 + ·), d.2)
/-- m blocks, n numbers. -/
def getGo : Nat → RSt → Nat → List Int → Option (List Int × RSt)
  | 0, st, _, l => some (l, st)
  | m + 1, st, n, l =>
    match getBlk st (min n 128) with
    | none => none
    | some (xs, st') => getGo m st' (n - min n 128) (l ++ xs)
def getF (bs : List Int) (n : Nat) : Option (List Int × RSt) := getGo ((n + 127) / 128) ⟨bs, 0, 0⟩ n []
theorem unz_range {u : Int} (h0 : 0 ≤ u) (h1 : u < 18446744073709551616) : -9223372036854775808 ≤ unz u ∧ unz u ≤ 9223372036854775807 := by
  unfold unz
  split <;> omega
theorem rInt_range {s : RSt} (h : s.ok) : -9223372036854775808 ≤ (rInt s).1 ∧ (rInt s).1 ≤ 9223372036854775807 := by
  have h1 := numF_range (bs := s.bs.drop s.at') (fun x hx => h.range x (List.mem_of_mem_drop hx))
  have h2 : 0 ≤ (rNum s).1 ∧ (rNum s).1 < 18446744073709551616 := took_range h1.1 h1.2.1
  exact unz_range h2.1 h2.2
theorem took_bs (s : RSt) (r : Int × Int) : (took s r).2.bs = s.bs := by
  unfold took
  split
  · rfl
  · split <;> rfl
theorem rInt_bs (s : RSt) : (rInt s).2.bs = s.bs := took_bs _ _
theorem rBytes_bs (s : RSt) (n : Int) : (rBytes s n).2.bs = s.bs := by
  unfold rBytes
  split
  · rfl
  · split <;> rfl
/-- What is read where all went well. -/
theorem rBytes_good {s : RSt} {n : Nat} (h : s.ok) (he : (rBytes s (n : Int)).2.e = 0) : (rBytes s (n : Int)).1.length = n ∧ ∀ x ∈ (rBytes s (n : Int)).1, 0 ≤ x ∧ x < 256 := by
  unfold rBytes at he ⊢
  split at he
  · rename_i h0; exact absurd he h0
  · split at he
    · simp at he
    · rename_i h0 h1
      rw [if_neg h0, if_neg h1]
      have hle := h.le
      simp only [Int.toNat_natCast]
      refine ⟨by rw [List.length_take, List.length_drop]; omega, fun x hx => h.range x (List.mem_of_mem_drop (List.mem_of_mem_take hx))⟩
theorem rBytes_bad {s : RSt} {n : Nat} (h0 : s.e = 0) (he : (rBytes s (n : Int)).2.e ≠ 0) : (rBytes s (n : Int)).1 = [] ∧ (s.ok → 1 ≤ n) := by
  unfold rBytes at he ⊢
  rw [if_neg (by simpa using h0)] at he ⊢
  split at he
  · rename_i h1
    rw [if_pos h1]
    exact ⟨rfl, fun h => by have := h.le; omega⟩
  · exact absurd h0 he
theorem took_ok {s : RSt} (h : s.ok) {r : Int × Int} (hr : r.2 ≤ (s.bs.length : Int) - s.at') : (took s r).2.ok := by
  unfold took
  have hle := h.le
  split
  · exact h
  · split
    · exact ⟨h.le, h.len, h.range⟩
    · exact ⟨by show s.at' + r.2.toNat ≤ s.bs.length; omega, h.len, h.range⟩
theorem rInt_ok {s : RSt} (h : s.ok) : (rInt s).2.ok := by
  have h1 := numF_range (bs := s.bs.drop s.at') (fun x hx => h.range x (List.mem_of_mem_drop hx))
  have hle := h.le
  refine took_ok h ?_
  have := h1.2.2.2
  rw [List.length_drop] at this
  omega
theorem rBytes_ok {s : RSt} (h : s.ok) (n : Int) : (rBytes s n).2.ok := by
  unfold rBytes
  have hle := h.le
  split
  · exact h
  · split
    · exact ⟨h.le, h.len, h.range⟩
    · exact ⟨by show s.at' + n.toNat ≤ s.bs.length; omega, h.len, h.range⟩
theorem unbitsL_range {N wd n : Nat} (h : wd ≤ 64) : ∀ u ∈ unbitsL N wd n, 0 ≤ u ∧ u < 18446744073709551616 := by
  intro u hu
  obtain ⟨i, _, rfl⟩ := List.mem_map.1 hu
  have h1 : N / 2 ^ (wd * i) % 2 ^ wd < 2 ^ wd := Nat.mod_lt _ (Nat.pow_pos (by decide))
  have h2 : 2 ^ wd ≤ 2 ^ 64 := Nat.pow_le_pow_right (by decide) h
  omega
theorem Rdr.drewN {w : World} {R base : Nat} {s : RSt} (h : Rdr w R base s) (m : Nat) : Rdr (w.drewN m) R base s := h.below (YtimlgpfcgklddaaW.PrintWords.pw_below_drewN (Below.refl _ _) m)
theorem Rdr.not {w : World} {R base : Nat} {s : RSt} (h : Rdr w R base s) {e : TypeId} (he : e ≠ 125) {cells : Array Value} (hc : w.heap[R]? = some (.cells cells e (0, 0))) : False := by
  obtain ⟨v, h1, _⟩ := h.v
  rw [h1] at hc
  injection hc with hc
  injection hc with _ hc
  exact he hc.symm
theorem Lx.keepR {w w' : World} {R base b : Nat} {s : RSt} {k : IntKind} {e : TypeId} {v : Value} {l : List Int} (hx : Lx k e w b v l) (h : Rdr w R base s) (he : e ≠ 125) (hg : w.grownBy w' (some R)) : Lx k e w' b v l :=
  Lax.grown hx hg fun j hj ej => by
    obtain ⟨cells, hc⟩ := Lax.typed hx j hj
    injection ej with ej
    rw [ej] at hc
    exact h.not he hc
theorem rBytes_err {s : RSt} {n : Int} {b : List Int} {b3 : List Int} {a3 : Nat} {e3 : Int} (h0 : s.e = 0) (h : rBytes s n = (b, ⟨b3, a3, e3⟩)) (he : e3 ≠ 0) : e3 = 20 := by
  unfold rBytes at h
  rw [if_neg (by simpa using h0)] at h
  split at h
  · injection h with _ h
    injection h with _ _ h
    exact h.symm
  · injection h with _ h
    injection h with _ _ h
    rw [h0] at h
    exact absurd h.symm he
theorem Lx.cell1 {w : World} {base : Nat} {ad : Addr} {c m : Nat} {x : Int} (h : Lx .u8 5 w base (.slice (some ad) m c) [x]) : w.cell? ad = some (.int .u8 x) := by
  obtain ⟨h1, h2, h3⟩ := Lx.reads' h
  obtain ⟨ad', e, hx⟩ := YtimlgpfcgklddaaW.PrintWords.Kd.at_int h3 0 (by simp) (by simp)
  injection e with e
  subst e
  exact hx
theorem grown_trans {a w w' : World} {row : Option Nat} (h : a.grownBy w row) (k : w.grownBy w' row) : a.grownBy w' row :=
  ⟨k.os.trans h.os, k.tape.trans h.tape, k.output.trans h.output, Nat.le_trans h.size k.size, fun i hi hne => (k.block i (Nat.lt_of_lt_of_le hi h.size) hne).trans (h.block i hi hne)⟩
theorem grown_below {a w w' : World} {row : Option Nat} (h : a.grownBy w row) (k : Below w.heap.size w w') : a.grownBy w' row :=
  ⟨k.os.trans h.os, k.tape.trans h.tape, k.output.trans h.output, Nat.le_trans h.size k.size, fun i hi hne => (k.block i (Nat.lt_of_lt_of_le hi h.size)).trans (h.block i hi hne)⟩
end Go.Proofs.Ytimlgpfcgklddaa
namespace Go.Proofs.Ytimlgpfcgklddaa.P
open Go.RowKit Go.Shelf Go.Proofs.YtimlgpfcgklddaaW.PrintWords Go.Proofs.YtimlgpfcgklddaaW.PrintLast Go.Proofs.YtimlgpfcgklddaaW.PrintMore
attribute [local go_sem] min2_mn min_two
set_option linter.unusedVariables false
set_option linter.unusedSimpArgs false
set_option maxRecDepth 100000 in
set_option maxHeartbeats 1000000 in
/-- Unbits where the bytes are too few. -/
theorem Unbits_bad (A : Option Addr) (m c : Nat) (wd n : Nat) (w : World) (hw1 : wd ≤ 64) (hn : n ≤ 1048576) (hl : m ≠ (wd * n + 7) / 8) :
    Calls Try.prog 109 #[.slice A m c, .int .i64 wd, .int .i64 n] w fun e w' => e = .returned (.tuple #[.slice none 0 0, .int .i64 20]) ∧ w' = w := by
  have hmul : wd * n ≤ 64 * n := Nat.mul_le_mul_right _ hw1
  obtain ⟨q, hq⟩ : ∃ q, (wd * n + 7) / 8 = q := ⟨_, rfl⟩
  have HS := Aside0.mk (size_calls wd n w (by omega))
  rw [hq] at HS hl
  have hl2 : ¬ (m : Int) = (q : Int) := by omega
  clear hq
  go_enter Try.func109, Try.ntmps109
  go_wp2
  go_step3
  go_wp2_with (go_at_call 110; ((with_reducible refine HS.out.mono ?_)); rintro e w1 ⟨rfl, rfl⟩)
  rw [Exit.noGoto_ret]
  go_ret2
  exact ⟨rfl, rfl⟩
set_option maxRecDepth 100000 in
set_option maxHeartbeats 1000000 in
theorem Get_calls (A : Option Addr) (bs : List Int) (c : Nat) (n : Nat) (w : World) (h : (Kd.int .u8).C w A bs.length bs) (hc : bs.length ≤ c) (hl : bs.length ≤ 140737488355328) (hr : ∀ x ∈ bs, 0 ≤ x ∧ x < 256) (hn : n ≤ 1048576) :
    Calls Try.prog 86 #[.slice A bs.length c, .int .i64 n] w fun e w' => (getF bs n = none ∧ e = .returned (.tuple #[.slice none 0 0, .int .i64 0, .int .i64 20]) ∨ ∃ l st v, getF bs n = some (l, st) ∧ e = .returned (.tuple #[v, .int .i64 (st.at' : Int), .int .i64 0]) ∧ Lx .i64 2 w' w.heap.size v l) ∧ Below w.heap.size w w' := by
  have H := Aside0.mk h
  have HR := Aside0.mk hr
  clear h hr
  go_enter Try.func86, Try.ntmps86
  go_wp2_with (go_at_call 50; ((with_reducible refine (NewReader_calls A bs c _ H.out hc hl HR.out).mono ?_)); rintro e w1 ⟨R, rfl, hR0, hrd, hb⟩; have HRD := Aside0.mk hrd; have HB := Aside0.mk hb; clear hrd hb)
  go_loopg [7] ((n + 127) / 128) (fun kq v7 w' => ∃ (l : List Int) (st : RSt) (nr : Nat), Aside0 (Lx .i64 2 w' w.heap.size v7 l) ∧ Aside0 (l.length + nr = n) ∧ Aside0 (kq = (nr + 127) / 128) ∧ Aside0 (st.bs = bs) ∧ Aside0 (getGo kq st nr l = getF bs n) ∧ Aside0 (Rdr w' R w.heap.size st) ∧ Aside0 (Below w.heap.size w w'))
  case atStart => exact ⟨[], _, n, ⟨Lx.nil _ _ _ _⟩, ⟨by simp⟩, ⟨rfl⟩, ⟨rfl⟩, ⟨rfl⟩, HRD, HB⟩
  case round =>
    clear HRD HB
    obtain ⟨l, st, nr, HL, hln, HK, HS, HG, HRD, HB⟩ := hrel
    obtain ⟨A1, c1, rfl, hc1, hC1⟩ := HL.out.reads
    have HM1 := Aside0.mk (Kd.C_max hC1)
    have hlnn := hln.out
    clear hC1
    by_cases hlt : l.length < n
    · obtain ⟨k, hk⟩ : ∃ k, min nr 128 = k := ⟨_, rfl⟩
      have hk1 : 1 ≤ k := by omega
      have hk2 : k ≤ 128 := by omega
      have hmn : mn ((n : Int) - (l.length : Int)) 128 = (k : Int) := by unfold mn; split <;> omega
      obtain ⟨m, hm⟩ : ∃ m, gk = m + 1 := ⟨gk - 1, by have := HK.out; omega⟩
      have HG1 : Aside0 ((match getBlk st k with | none => none | some (xs, st') => getGo m st' (nr - k) (l ++ xs)) = getF bs n) := ⟨by
        have := HG.out
        rw [hm, getGo, hk] at this
        exact this⟩
      clear HG
      have hok := HRD.out.ok
      have hlr := rInt_range hok
      obtain ⟨least, s1, h1⟩ : ∃ least s1, rInt st = (least, s1) := ⟨_, _, rfl⟩
      have HInt : Aside0 (∀ W, Rdr W R w.heap.size st → Calls Try.prog 108 #[.pointer (some ⟨R, 0, none⟩)] W fun e w' => e = .returned (.int .i64 least) ∧ Rdr w' R w.heap.size s1 ∧ W.grownBy w' (some R)) := ⟨fun W hW => by
        have := Int_calls R w.heap.size st W hW
        rw [h1] at this
        exact this⟩
      rw [h1] at hlr
      obtain ⟨wb, s2, h2⟩ : ∃ wb s2, rBytes s1 1 = (wb, s2) := ⟨_, _, rfl⟩
      have HBy1 : Aside0 (∀ W, Rdr W R w.heap.size s1 → Calls Try.prog 52 #[.pointer (some ⟨R, 0, none⟩), .int .i64 1] W fun e w' => ∃ v, e = .returned v ∧ Lx .u8 5 w' W.heap.size v wb ∧ Rdr w' R w.heap.size s2 ∧ W.grownBy w' (some R)) := ⟨fun W hW => by
        have := Bytes_calls R w.heap.size s1 1 W hW
        rw [h2] at this
        exact this⟩
      have hgb : getBlk st k = (if s2.e ≠ 0 ∨ wb.getD 0 0 > 64 then none else
          let wd := (wb.getD 0 0).toNat
          let d := rBytes s2 (((wd * k + 7) / 8 : Nat) : Int)
          if d.2.e ≠ 0 ∨ leVal d.1 / 2 ^ (wd * k) ≠ 0 then none else
          let ab := unbitsL (leVal d.1) wd k
          if widthOf ab ≠ wd ∨ minI ab ≠ 0 ∨ ∃ u ∈ ab, least + u > 9223372036854775807 then none else some (ab.map (least + ·), d.2)) := by
        unfold getBlk
        simp only [h1, h2]
      by_cases he2 : s2.e = 0
      · have hok1 : s1.ok := by
          have := (Int_calls R w.heap.size st wr HRD.out)
          have h3 := rInt_ok hok
          rw [h1] at h3
          exact h3
        have hg1 := rBytes_good (n := 1) hok1 (by rw [show ((1 : Nat) : Int) = 1 from rfl, h2]; exact he2)
        rw [show ((1 : Nat) : Int) = 1 from rfl, h2] at hg1
        have hok2 : s2.ok := by
          have h3 := rBytes_ok hok1 1
          rw [h2] at h3
          exact h3
        obtain ⟨x, rfl⟩ : ∃ x, wb = [x] := by
          have := hg1.1
          match wb, this with
          | [x], _ => exact ⟨x, rfl⟩
        obtain ⟨hx0, hx1⟩ := hg1.2 x (List.mem_cons_self ..)
        have hgd : ([x] : List Int).getD 0 0 = x := rfl
        rw [hgd] at hgb
        by_cases hx64 : x > 64
        · rw [if_pos (.inr hx64)] at hgb
          have HN : Aside0 (getF bs n = none) := ⟨by rw [← HG1.out, hgb]⟩
          clear hgb HG1 h1 h2
          go_wp2_with (first | (go_at_call 108; ((with_reducible refine (HInt.out _ HRD.out).mono ?_)); rintro e wa ⟨rfl, hra, hga⟩; have HRa := Aside0.mk hra; have HGa := Aside0.mk hga; clear hra hga) | (go_at_call 52; ((with_reducible refine (HBy1.out _ HRa.out).mono ?_)); rintro e wb2 ⟨vb, rfl, hob, hrb, hgb⟩; have HRb := Aside0.mk hrb; have HOb := Aside0.mk hob; obtain ⟨A2, c2, rfl, hc2, hC2⟩ := hob.reads; obtain ⟨ad2, rfl, hx2⟩ := Kd.at_int hC2 0 (by simp) (by simp); have hx2 : wb2.cell? ad2 = some (.int .u8 x) := hx2; clear hC2; have HGb := Aside0.mk (grown_trans HGa.out hgb); clear hrb hob hgb) | (go_at_call 54; ((with_reducible refine (Err_calls R w.heap.size s2 _ HRb.out).mono ?_)); rintro e w2 ⟨rfl, rfl⟩))
          go_ret3
          exact ⟨.inl ⟨HN.out, rfl⟩, HB.out.grown HGb.out HB.out.size (fun k e => by cases e; exact hR0)⟩
        · rw [if_neg (by omega)] at hgb
          obtain ⟨wd, rfl⟩ := Int.eq_ofNat_of_zero_le hx0
          rw [Int.toNat_natCast] at hgb
          have hwd : wd ≤ 64 := by omega
          have hmul : wd * k ≤ 64 * k := Nat.mul_le_mul_right _ hwd
          obtain ⟨q, hq⟩ : ∃ q, (wd * k + 7) / 8 = q := ⟨_, rfl⟩
          have HSz : Aside0 (∀ W, Calls Try.prog 110 #[.int .i64 wd, .int .i64 k] W fun e w' => e = .returned (.int .i64 (q : Int)) ∧ W = w') := ⟨fun W => by
            have := size_calls wd k W (by omega)
            rw [hq] at this
            exact this⟩
          dsimp only at hgb
          rw [hq] at hgb
          obtain ⟨body, s3, h3⟩ : ∃ body s3, rBytes s2 (q : Int) = (body, s3) := ⟨_, _, rfl⟩
          have HBy2 : Aside0 (∀ W, Rdr W R w.heap.size s2 → Calls Try.prog 52 #[.pointer (some ⟨R, 0, none⟩), .int .i64 (q : Int)] W fun e w' => ∃ v, e = .returned v ∧ Lx .u8 5 w' W.heap.size v body ∧ Rdr w' R w.heap.size s3 ∧ W.grownBy w' (some R)) := ⟨fun W hW => by
            have := Bytes_calls R w.heap.size s2 q W hW
            rw [h3] at this
            exact this⟩
          rw [h3] at hgb
          dsimp only at hgb
          have hwx : IntKind.i64.wrap (wd : Int) = (wd : Int) := by rw [IntKind.wrap_i64]; omega
          by_cases he3 : s3.e = 0
          · have hbg := rBytes_good (n := q) hok2 (by rw [h3]; exact he3)
            rw [h3] at hbg
            dsimp only at hbg
            by_cases hlv : leVal body / 2 ^ (wd * k) = 0
            · rw [if_neg (fun h => h.elim (fun h => h he3) (fun h => h hlv))] at hgb
              obtain ⟨ab, hab⟩ : ∃ ab, unbitsL (leVal body) wd k = ab := ⟨_, rfl⟩
              have habl : ab.length = k := by rw [← hab, unbitsL_length]
              have habr : ∀ u ∈ ab, 0 ≤ u ∧ u < 18446744073709551616 := fun u hu => by rw [← hab] at hu; exact unbitsL_range hwd u hu
              try dsimp only at hgb
              rw [hab] at hgb
              obtain ⟨b3, a3, e3⟩ := s3
              have e30 : e3 = 0 := he3
              subst e30
              have HB3 : Aside0 (b3 = bs) := ⟨by
                have e1 := rInt_bs st
                rw [h1] at e1
                have e2 := rBytes_bs s1 1
                rw [h2] at e2
                have e3 := rBytes_bs s2 q
                rw [h3] at e3
                dsimp only at e1 e2 e3
                rw [e3, e2, e1]
                exact HS.out⟩
              have HU : Aside0 (∀ W A c, (Kd.int .u8).C W A body.length body → body.length ≤ c → Calls Try.prog 109 #[.slice A body.length c, .int .i64 wd, .int .i64 k] W fun e w' => ∃ v, e = .returned (.tuple #[v, .int .i64 0]) ∧ (Kd.int .u64).R 78 w' W.heap.size (fun _ => True) v ab ∧ Below W.heap.size W w') := ⟨fun W A c hC hc => by
                refine (Unbits_calls A body c wd k W hC hc hwd (by omega) hbg.2 (by rw [hbg.1, hq])).mono ?_
                rintro e w' ⟨h, hb⟩
                rcases h with ⟨h, _⟩ | ⟨_, v, rfl, hv⟩
                · exact absurd hlv h
                · exact ⟨v, rfl, by rw [← hab]; exact hv, hb⟩⟩
              have HAR := Aside0.mk habr
              obtain ⟨wv, hwv⟩ : ∃ wv, widthOf ab = wv := ⟨_, rfl⟩
              obtain ⟨mv, hmv⟩ : ∃ mv, minI ab = mv := ⟨_, rfl⟩
              have HWi : Aside0 (∀ W A c, (Kd.int .u64).C W A ab.length ab → ab.length ≤ c → Calls Try.prog 104 #[.slice A ab.length c] W fun e w' => e = .returned (.int .i64 (wv : Int)) ∧ W = w') := ⟨fun W A c hC hc => by
                have := Width_calls A ab c W hC hc HAR.out
                rw [hwv] at this
                exact this⟩
              have HMi : Aside0 (∀ W A c, (Kd.int .u64).C W A ab.length ab → ab.length ≤ c → Calls Try.prog 111 #[.slice A ab.length c] W fun e w' => e = .returned (.int .u64 mv) ∧ W = w') := ⟨fun W A c hC hc => by
                have := MinU_calls A ab c W hC hc (by omega)
                rw [hmv] at this
                exact this⟩
              rw [hwv, hmv] at hgb
              have HABL := Aside0.mk habl
              clear h1 h2 h3 hg1 hlv he3 hbg habr hab hwv hmv habl
              by_cases hww : wv = wd
              · subst hww
                by_cases hmm : mv = 0
                · subst hmm
                  have HGB := Aside0.mk hgb
                  have HLR := Aside0.mk hlr
                  have hnk : k ≤ nr := by omega
                  clear hgb
                  go_wp2_with (first | (go_at_call 108; ((with_reducible refine (HInt.out _ HRD.out).mono ?_)); rintro e wa ⟨rfl, hra, hga⟩; have HRa := Aside0.mk hra; have HGa := Aside0.mk hga; clear hra hga) | (go_at_call 52; ((with_reducible refine (HBy1.out _ HRa.out).mono ?_)); rintro e wb2 ⟨vb, rfl, hob, hrb, hgb⟩; have HRb := Aside0.mk hrb; have HOb := Aside0.mk hob; obtain ⟨A2, c2, rfl, hc2, hC2⟩ := hob.reads; obtain ⟨ad2, rfl, hx2⟩ := Kd.at_int hC2 0 (by simp) (by simp); have hx2 : wb2.cell? ad2 = some (.int .u8 (wv : Int)) := hx2; clear hC2; have HGb := Aside0.mk (grown_trans HGa.out hgb); clear hrb hob hgb) | (go_at_call 54; ((with_reducible refine (Err_calls R w.heap.size s2 _ HRb.out).mono ?_)); rintro e w2 ⟨rfl, rfl⟩))
                  go_region_held3 (fun w' => w'.cell? ad2 = some (.int .u8 (wv : Int))) (first | exact hx4 | exact hx3 | exact hx2) (first | (go_at_call 110; ((with_reducible refine (HSz.out _).mono ?_)); rintro e w2 ⟨rfl, rfl⟩) | (go_at_call 52; ((with_reducible refine (HBy2.out _ HRb.out.drew).mono ?_)); rintro e wc ⟨vc, rfl, hoc, hrc, hgc⟩; obtain ⟨A3, c3, rfl, hc3, hC3⟩ := hoc.reads; have HC3 := Aside0.mk hC3; have HRc := Aside0.mk hrc; have HOc := Aside0.mk (Lx.keepR (Lx.drew HOb.out) HRb.out.drew (by decide) hgc); have hx3 := Lx.cell1 HOc.out; have HGc := Aside0.mk (grown_trans (grown_below HGb.out (Below.drew (Below.refl _ _))) hgc); clear hoc hrc hgc hC3) | (go_at_call 109; ((with_reducible refine (HU.out _ _ _ HC3.out hc3).mono ?_)); rintro e w5 ⟨v5, rfl, ho5, hb5⟩; obtain ⟨A5, c5, rfl⟩ := Kd.R_slice ho5; have hc5 : ab.length ≤ c5 := (Kd.R_reads' ho5).2.1; have HC5 := Aside0.mk (Kd.R_reads' ho5).2.2; have HB5 := Aside0.mk hb5; have HO5 := Aside0.mk ho5; have hx4 := Lx.cell1 (Lx.below HOc.out hb5); clear hb5 ho5))
                  go_wp2
                  go_big_quiet (first | (go_at_call 54; ((with_reducible refine (Err_calls R w.heap.size ⟨b3, a3, 0⟩ _ ((HRc.out.below HB5.out).drewN _)).mono ?_)); rintro e w6 ⟨rfl, rfl⟩; exact ⟨rfl, _, rfl⟩) | (go_at_call 104; ((with_reducible refine (HWi.out _ _ _ (Kd.C_below HC5.out (pw_below_drewN (Below.refl _ _) _)) hc5).mono ?_)); rintro e w6 ⟨rfl, rfl⟩; exact ⟨rfl, _, rfl⟩) | (go_at_call 111; ((with_reducible refine (HMi.out _ _ _ (Kd.C_below HC5.out (pw_below_drewN (Below.refl _ _) _)) hc5).mono ?_)); rintro e w6 ⟨rfl, rfl⟩; exact ⟨rfl, _, rfl⟩))
                  go_wp2
                  have hgN := grown_below (grown_below HGc.out HB5.out) (pw_below_drewN (Below.refl _ _) nq)
                  have HL5 := Aside0.mk (Lx.keepR HL.out HRD.out (by decide) hgN)
                  have HR5 := Aside0.mk ((HRc.out.below HB5.out).drewN nq)
                  have HBB5 := Aside0.mk (HB.out.grown hgN HB.out.size (fun k e => by cases e; exact hR0))
                  have HC55 := Aside0.mk (Kd.R_below HO5.out (pw_below_drewN (Below.refl _ _) nq))
                  clear hgN hx2 hx3 hx4 HGa HGb HGc HB5 HC5 HO5 HOb HOc HRa HRb HRc HL HRD HB
                  go_loopg [7, 87] ab.length (fun kq2 v7 v87 w' => ∃ j : Nat, v87 = .int .i64 j ∧ Aside0 (j + kq2 = ab.length) ∧ Aside0 (Lx .i64 2 w' w.heap.size v7 (l ++ (ab.take j).map (least + ·))) ∧ Aside0 (Rdr w' R w.heap.size ⟨b3, a3, 0⟩) ∧ Aside0 (Below w.heap.size w w') ∧ Aside0 (∀ u ∈ ab.take j, least + u ≤ 9223372036854775807) ∧ Aside0 ((Kd.int .u64).R 78 w' wc.heap.size (fun _ => True) (.slice A5 ab.length c5) ab))
                  case atStart => exact ⟨0, rfl, ⟨by omega⟩, ⟨by simpa using HL5.out⟩, HR5, HBB5, ⟨fun u hu => by simp at hu⟩, HC55⟩
                  case round =>
                    clear HL5 HR5 HBB5 HC55
                    obtain ⟨j, rfl, hj, HL, HRD, HB, HMX, HC5⟩ := hrel
                    by_cases hjl : j < ab.length
                    · obtain ⟨ad5, rfl, hx5⟩ := Kd.at_int (Kd.R_reads' HC5.out).2.2 (j : Int) (by omega) (by omega)
                      rw [Int.toNat_natCast] at hx5
                      have htk := take_rd ab j hjl
                      have hmem : ab.getD j 0 ∈ ab := by rw [List.getD_eq_getElem?_getD, List.getElem?_eq_getElem hjl]; exact List.getElem_mem hjl
                      obtain ⟨u, hu⟩ : ∃ u, rd ab j = u := ⟨_, rfl⟩
                      have hu2 : ab.getD j 0 = u := by rw [← hu]; unfold rd; rw [Int.toNat_natCast]
                      rw [hu] at hx5
                      rw [hu2] at hmem htk
                      obtain ⟨hu0, hu1⟩ := HAR.out u hmem
                      have HMEM := Aside0.mk hmem
                      have HTK := Aside0.mk htk
                      clear hmem htk hu hu2
                      obtain ⟨hlr0, hlr1⟩ := HLR.out
                      by_cases hov : least + u ≤ 9223372036854775807
                      · have hwz : IntKind.i64.wrap (IntKind.u64.wrap (IntKind.u64.wrap least + u)) = least + u := by rw [wrap_u64, wrap_u64, IntKind.wrap_i64]; omega
                        have hnl : ¬ least + u < least := by omega
                        obtain ⟨ls, hls⟩ : ∃ ls, l ++ (ab.take j).map (least + ·) = ls := ⟨_, rfl⟩
                        rw [hls] at HL
                        have HLS := Aside0.mk hls
                        have HLL : Aside0 (ls.length ≤ 1048576) := ⟨by
                          have h1 := congrArg List.length hls
                          rw [List.length_append, List.length_map, List.length_take] at h1
                          have := HABL.out
                          omega⟩
                        clear hls
                        go_wp2_with ((with_reducible refine gate_builtin (b := .append) (xs := #[.tmp 99, .tmp 101]) rfl ?_); at_builtin; refine Lx.append_oneN (w0 := w) .i64 w.heap.size rfl (.tmp 99) (.tmp 101) 85 2 8 rfl Try.underlying85 info2 (by decide) u7 ls (least + u) wr.heap.size ?aN rfl rfl ?aO ?aB ?aS ?aL ?_; (case aN => first | rfl | simp); (case aO => exact HL.out); (case aB => exact HB.out); (case aS => exact HB.out.size); (case aL => have := HLL.out; omega); intro v9 w9 ho9 hb9 hg9 _; have HO9 := Aside0.mk ho9; have HB9 := Aside0.mk hb9; have HG9 := Aside0.mk hg9; clear ho9 hb9 hg9)
                        have hNR : some R ≠ u7.ownBlock := fun e => by
                          obtain ⟨cells, hcc⟩ := Lax.typed HL.out R e.symm
                          exact HRD.out.not (by decide) hcc
                        have HR9 : Aside0 (Rdr w9 R w.heap.size ⟨b3, a3, 0⟩) := ⟨HRD.out.grown HG9.out hNR (fun j' hj' cells hcc => by
                          obtain ⟨cells2, hc2⟩ := Lax.typed HL.out j' hj'
                          rw [hc2] at hcc
                          injection hcc with hcc
                          injection hcc with _ hcc
                          exact absurd hcc (by decide))⟩
                        have HC9 : Aside0 ((Kd.int .u64).R 78 w9 wc.heap.size (fun _ => True) (.slice (some ad5) ab.length c5) ab) := ⟨Kd.R_over' HC5.out (Lax.typed HL.out) (by decide) HG9.out⟩
                        go_roundg (gk - 1)
                        case measure => have := hj.out; omega
                        case rel => exact ⟨j + 1, by first | rfl | (simp; done) | (have h1 := HABL.out; simp; unfold wrap64; omega), ⟨by have := hj.out; omega⟩, ⟨by rw [HTK.out, List.map_append, ← List.append_assoc, HLS.out]; exact HO9.out⟩, HR9, HB9, ⟨fun y hy => by
                          rw [HTK.out] at hy
                          rcases List.mem_append.1 hy with hy | hy
                          · exact HMX.out y hy
                          · rw [List.mem_singleton] at hy; rw [hy]; exact hov⟩, HC9⟩
                      · have hwz : IntKind.i64.wrap (IntKind.u64.wrap (IntKind.u64.wrap least + u)) = least + u - 18446744073709551616 := by rw [wrap_u64, wrap_u64, IntKind.wrap_i64]; omega
                        have hlt2 : least + u - 18446744073709551616 < least := by omega
                        have HN : Aside0 (getF bs n = none) := ⟨by
                          have h := HGB.out
                          rw [if_pos (.inr (.inr ⟨u, HMEM.out, by omega⟩))] at h
                          rw [← HG1.out, h]⟩
                        go_wp2
                        go_ret3
                        exact ⟨.inl ⟨HN.out, rfl⟩, HB.out⟩
                    · have hje : j = ab.length := by have := hj.out; omega
                      have htk : ab.take j = ab := by rw [hje, List.take_length]
                      rw [htk] at HL HMX
                      have hgn : Aside0 (getGo m ⟨b3, a3, 0⟩ (nr - k) (l ++ ab.map (least + ·)) = getF bs n) := ⟨by
                        have h := HGB.out
                        rw [if_neg (by
                          rintro (h | h | ⟨u, hu, h⟩)
                          · exact h rfl
                          · exact h rfl
                          · have := HMX.out u hu; omega)] at h
                        have h2 := HG1.out
                        rw [h] at h2
                        exact h2⟩
                      have hjj : ¬ (j : Int) < (ab.length : Int) := by omega
                      clear htk
                      go_wp2
                      go_roundg m
                      case measure => omega
                      case rel => exact ⟨l ++ ab.map (least + ·), ⟨b3, a3, 0⟩, nr - k, HL, ⟨by rw [List.length_append, List.length_map]; have := HABL.out; omega⟩, ⟨by have := HK.out; omega⟩, HB3, hgn, HRD, HB⟩
                · rw [if_pos (.inr (.inl hmm))] at hgb
                  have HN : Aside0 (getF bs n = none) := ⟨by rw [← HG1.out, hgb]⟩
                  have hmb : (mv != 0) = true := by simp [hmm]
                  clear hgb HG1
                  go_wp2_with (first | (go_at_call 108; ((with_reducible refine (HInt.out _ HRD.out).mono ?_)); rintro e wa ⟨rfl, hra, hga⟩; have HRa := Aside0.mk hra; have HGa := Aside0.mk hga; clear hra hga) | (go_at_call 52; ((with_reducible refine (HBy1.out _ HRa.out).mono ?_)); rintro e wb2 ⟨vb, rfl, hob, hrb, hgb⟩; have HRb := Aside0.mk hrb; have HOb := Aside0.mk hob; obtain ⟨A2, c2, rfl, hc2, hC2⟩ := hob.reads; obtain ⟨ad2, rfl, hx2⟩ := Kd.at_int hC2 0 (by simp) (by simp); have hx2 : wb2.cell? ad2 = some (.int .u8 (wv : Int)) := hx2; clear hC2; have HGb := Aside0.mk (grown_trans HGa.out hgb); clear hrb hob hgb) | (go_at_call 54; ((with_reducible refine (Err_calls R w.heap.size s2 _ HRb.out).mono ?_)); rintro e w2 ⟨rfl, rfl⟩))
                  go_region_held3 (fun w' => w'.cell? ad2 = some (.int .u8 (wv : Int))) (first | exact hx4 | exact hx3 | exact hx2) (first | (go_at_call 110; ((with_reducible refine (HSz.out _).mono ?_)); rintro e w2 ⟨rfl, rfl⟩) | (go_at_call 52; ((with_reducible refine (HBy2.out _ HRb.out.drew).mono ?_)); rintro e wc ⟨vc, rfl, hoc, hrc, hgc⟩; obtain ⟨A3, c3, rfl, hc3, hC3⟩ := hoc.reads; have HC3 := Aside0.mk hC3; have HRc := Aside0.mk hrc; have HOc := Aside0.mk (Lx.keepR (Lx.drew HOb.out) HRb.out.drew (by decide) hgc); have hx3 := Lx.cell1 HOc.out; have HGc := Aside0.mk (grown_trans (grown_below HGb.out (Below.drew (Below.refl _ _))) hgc); clear hoc hrc hgc hC3) | (go_at_call 109; ((with_reducible refine (HU.out _ _ _ HC3.out hc3).mono ?_)); rintro e w5 ⟨v5, rfl, ho5, hb5⟩; obtain ⟨A5, c5, rfl⟩ := Kd.R_slice ho5; have hc5 : ab.length ≤ c5 := (Kd.R_reads' ho5).2.1; have HC5 := Aside0.mk (Kd.R_reads' ho5).2.2; have HB5 := Aside0.mk hb5; have hx4 := Lx.cell1 (Lx.below HOc.out hb5); clear hb5 ho5))
                  go_wp2
                  go_big_quiet (first | (go_at_call 54; ((with_reducible refine (Err_calls R w.heap.size ⟨b3, a3, 0⟩ _ ((HRc.out.below HB5.out).drewN _)).mono ?_)); rintro e w6 ⟨rfl, rfl⟩; exact ⟨rfl, _, rfl⟩) | (go_at_call 104; ((with_reducible refine (HWi.out _ _ _ (Kd.C_below HC5.out (pw_below_drewN (Below.refl _ _) _)) hc5).mono ?_)); rintro e w6 ⟨rfl, rfl⟩; exact ⟨rfl, _, rfl⟩) | (go_at_call 111; ((with_reducible refine (HMi.out _ _ _ (Kd.C_below HC5.out (pw_below_drewN (Below.refl _ _) _)) hc5).mono ?_)); rintro e w6 ⟨rfl, rfl⟩; exact ⟨rfl, _, rfl⟩))
                  go_wp2
                  go_ret3
                  exact ⟨.inl ⟨HN.out, rfl⟩, HB.out.grown (grown_below (grown_below HGc.out HB5.out) (pw_below_drewN (Below.refl _ _) _)) HB.out.size (fun k e => by cases e; exact hR0)⟩
              · rw [if_pos (.inl hww)] at hgb
                have HN : Aside0 (getF bs n = none) := ⟨by rw [← HG1.out, hgb]⟩
                have hwi : ¬ (wv : Int) = (wd : Int) := by omega
                have hwb : ((wv : Int) != (wd : Int)) = true := by simp [hwi]
                clear hgb HG1
                go_wp2_with (first | (go_at_call 108; ((with_reducible refine (HInt.out _ HRD.out).mono ?_)); rintro e wa ⟨rfl, hra, hga⟩; have HRa := Aside0.mk hra; have HGa := Aside0.mk hga; clear hra hga) | (go_at_call 52; ((with_reducible refine (HBy1.out _ HRa.out).mono ?_)); rintro e wb2 ⟨vb, rfl, hob, hrb, hgb⟩; have HRb := Aside0.mk hrb; have HOb := Aside0.mk hob; obtain ⟨A2, c2, rfl, hc2, hC2⟩ := hob.reads; obtain ⟨ad2, rfl, hx2⟩ := Kd.at_int hC2 0 (by simp) (by simp); have hx2 : wb2.cell? ad2 = some (.int .u8 (wd : Int)) := hx2; clear hC2; have HGb := Aside0.mk (grown_trans HGa.out hgb); clear hrb hob hgb) | (go_at_call 54; ((with_reducible refine (Err_calls R w.heap.size s2 _ HRb.out).mono ?_)); rintro e w2 ⟨rfl, rfl⟩))
                go_region_held3 (fun w' => w'.cell? ad2 = some (.int .u8 (wd : Int))) (first | exact hx4 | exact hx3 | exact hx2) (first | (go_at_call 110; ((with_reducible refine (HSz.out _).mono ?_)); rintro e w2 ⟨rfl, rfl⟩) | (go_at_call 52; ((with_reducible refine (HBy2.out _ HRb.out.drew).mono ?_)); rintro e wc ⟨vc, rfl, hoc, hrc, hgc⟩; obtain ⟨A3, c3, rfl, hc3, hC3⟩ := hoc.reads; have HC3 := Aside0.mk hC3; have HRc := Aside0.mk hrc; have HOc := Aside0.mk (Lx.keepR (Lx.drew HOb.out) HRb.out.drew (by decide) hgc); have hx3 := Lx.cell1 HOc.out; have HGc := Aside0.mk (grown_trans (grown_below HGb.out (Below.drew (Below.refl _ _))) hgc); clear hoc hrc hgc hC3) | (go_at_call 109; ((with_reducible refine (HU.out _ _ _ HC3.out hc3).mono ?_)); rintro e w5 ⟨v5, rfl, ho5, hb5⟩; obtain ⟨A5, c5, rfl⟩ := Kd.R_slice ho5; have hc5 : ab.length ≤ c5 := (Kd.R_reads' ho5).2.1; have HC5 := Aside0.mk (Kd.R_reads' ho5).2.2; have HB5 := Aside0.mk hb5; have hx4 := Lx.cell1 (Lx.below HOc.out hb5); clear hb5 ho5))
                go_wp2
                go_big_quiet (first | (go_at_call 54; ((with_reducible refine (Err_calls R w.heap.size ⟨b3, a3, 0⟩ _ ((HRc.out.below HB5.out).drewN _)).mono ?_)); rintro e w6 ⟨rfl, rfl⟩; exact ⟨rfl, _, rfl⟩) | (go_at_call 104; ((with_reducible refine (HWi.out _ _ _ (Kd.C_below HC5.out (pw_below_drewN (Below.refl _ _) _)) hc5).mono ?_)); rintro e w6 ⟨rfl, rfl⟩; exact ⟨rfl, _, rfl⟩) | (go_at_call 111; ((with_reducible refine (HMi.out _ _ _ (Kd.C_below HC5.out (pw_below_drewN (Below.refl _ _) _)) hc5).mono ?_)); rintro e w6 ⟨rfl, rfl⟩; exact ⟨rfl, _, rfl⟩))
                go_wp2
                go_ret3
                exact ⟨.inl ⟨HN.out, rfl⟩, HB.out.grown (grown_below (grown_below HGc.out HB5.out) (pw_below_drewN (Below.refl _ _) _)) HB.out.size (fun k e => by cases e; exact hR0)⟩
            · rw [if_pos (.inr hlv)] at hgb
              have HN : Aside0 (getF bs n = none) := ⟨by rw [← HG1.out, hgb]⟩
              obtain ⟨b3, a3, e3⟩ := s3
              have e30 : e3 = 0 := he3
              subst e30
              have HU : Aside0 (∀ W A c, (Kd.int .u8).C W A body.length body → body.length ≤ c → Calls Try.prog 109 #[.slice A body.length c, .int .i64 wd, .int .i64 k] W fun e w' => e = .returned (.tuple #[.slice none 0 0, .int .i64 20]) ∧ Below W.heap.size W w') := ⟨fun W A c hC hc => by
                refine (Unbits_calls A body c wd k W hC hc hwd (by omega) hbg.2 (by rw [hbg.1, hq])).mono ?_
                rintro e w' ⟨h, hb⟩
                rcases h with ⟨_, rfl⟩ | ⟨h, _⟩
                · exact ⟨rfl, hb⟩
                · exact absurd h hlv⟩
              clear hgb HG1 h1 h2 h3 hg1 hlv he3 hbg
              go_wp2_with (first | (go_at_call 108; ((with_reducible refine (HInt.out _ HRD.out).mono ?_)); rintro e wa ⟨rfl, hra, hga⟩; have HRa := Aside0.mk hra; have HGa := Aside0.mk hga; clear hra hga) | (go_at_call 52; ((with_reducible refine (HBy1.out _ HRa.out).mono ?_)); rintro e wb2 ⟨vb, rfl, hob, hrb, hgb⟩; have HRb := Aside0.mk hrb; have HOb := Aside0.mk hob; obtain ⟨A2, c2, rfl, hc2, hC2⟩ := hob.reads; obtain ⟨ad2, rfl, hx2⟩ := Kd.at_int hC2 0 (by simp) (by simp); have hx2 : wb2.cell? ad2 = some (.int .u8 (wd : Int)) := hx2; clear hC2; have HGb := Aside0.mk (grown_trans HGa.out hgb); clear hrb hob hgb) | (go_at_call 54; ((with_reducible refine (Err_calls R w.heap.size s2 _ HRb.out).mono ?_)); rintro e w2 ⟨rfl, rfl⟩))
              go_region_held3 (fun w' => w'.cell? ad2 = some (.int .u8 (wd : Int))) (first | exact hx4 | exact hx3 | exact hx2) (first | (go_at_call 110; ((with_reducible refine (HSz.out _).mono ?_)); rintro e w2 ⟨rfl, rfl⟩) | (go_at_call 52; ((with_reducible refine (HBy2.out _ HRb.out.drew).mono ?_)); rintro e wc ⟨vc, rfl, hoc, hrc, hgc⟩; obtain ⟨A3, c3, rfl, hc3, hC3⟩ := hoc.reads; have HC3 := Aside0.mk hC3; have HRc := Aside0.mk hrc; have HOc := Aside0.mk (Lx.keepR (Lx.drew HOb.out) HRb.out.drew (by decide) hgc); have hx3 := Lx.cell1 HOc.out; have HGc := Aside0.mk (grown_trans (grown_below HGb.out (Below.drew (Below.refl _ _))) hgc); clear hoc hrc hgc hC3) | (go_at_call 109; ((with_reducible refine (HU.out _ _ _ HC3.out hc3).mono ?_)); rintro e w5 ⟨rfl, hb5⟩; have HB5 := Aside0.mk hb5; have hx4 := Lx.cell1 (Lx.below HOc.out hb5); clear hb5))
              go_wp2
              go_big_quiet (first | (go_at_call 54; ((with_reducible refine (Err_calls R w.heap.size ⟨b3, a3, 0⟩ _ ((HRc.out.below HB5.out).drewN _)).mono ?_)); rintro e w6 ⟨rfl, rfl⟩; exact ⟨rfl, _, rfl⟩))
              go_wp2
              go_ret3
              exact ⟨.inl ⟨HN.out, rfl⟩, HB.out.grown (grown_below (grown_below HGc.out HB5.out) (pw_below_drewN (Below.refl _ _) _)) HB.out.size (fun k e => by cases e; exact hR0)⟩
          · rw [if_pos (.inl he3)] at hgb
            have HN : Aside0 (getF bs n = none) := ⟨by rw [← HG1.out, hgb]⟩
            have hbd := rBytes_bad (n := q) he2 (by rw [h3]; exact he3)
            rw [h3] at hbd
            obtain ⟨hb0, hq1⟩ := hbd
            have hq1 := hq1 hok2
            dsimp only at hb0
            subst hb0
            have HU : Aside0 (∀ W A c, Calls Try.prog 109 #[.slice A 0 c, .int .i64 wd, .int .i64 k] W fun e w' => e = .returned (.tuple #[.slice none 0 0, .int .i64 20]) ∧ w' = W) := ⟨fun W A c => Unbits_bad A 0 c wd k W hwd (by omega) (by omega)⟩
            have HE3 := Aside0.mk he3
            obtain ⟨b3, a3, e3⟩ := s3
            have e320 : e3 = 20 := rBytes_err he2 h3 he3
            subst e320
            clear HE3
            clear hgb HG1 h1 h2 h3 hg1
            go_wp2_with (first | (go_at_call 108; ((with_reducible refine (HInt.out _ HRD.out).mono ?_)); rintro e wa ⟨rfl, hra, hga⟩; have HRa := Aside0.mk hra; have HGa := Aside0.mk hga; clear hra hga) | (go_at_call 52; ((with_reducible refine (HBy1.out _ HRa.out).mono ?_)); rintro e wb2 ⟨vb, rfl, hob, hrb, hgb⟩; have HRb := Aside0.mk hrb; have HOb := Aside0.mk hob; obtain ⟨A2, c2, rfl, hc2, hC2⟩ := hob.reads; obtain ⟨ad2, rfl, hx2⟩ := Kd.at_int hC2 0 (by simp) (by simp); have hx2 : wb2.cell? ad2 = some (.int .u8 (wd : Int)) := hx2; clear hC2; have HGb := Aside0.mk (grown_trans HGa.out hgb); clear hrb hob hgb) | (go_at_call 54; ((with_reducible refine (Err_calls R w.heap.size s2 _ HRb.out).mono ?_)); rintro e w2 ⟨rfl, rfl⟩))
            go_region_held3 (fun w' => w'.cell? ad2 = some (.int .u8 (wd : Int))) (first | exact hx2 | exact hx3) (first | (go_at_call 110; ((with_reducible refine (HSz.out _).mono ?_)); rintro e w2 ⟨rfl, rfl⟩) | (go_at_call 52; ((with_reducible refine (HBy2.out _ HRb.out.drew).mono ?_)); rintro e wc ⟨vc, rfl, hoc, hrc, hgc⟩; obtain ⟨A3, c3, rfl, hc3, hC3⟩ := hoc.reads; have HC3 := Aside0.mk hC3; have HRc := Aside0.mk hrc; have HOc := Aside0.mk (Lx.keepR (Lx.drew HOb.out) HRb.out.drew (by decide) hgc); have hx3 := Lx.cell1 HOc.out; have HGc := Aside0.mk (grown_trans (grown_below HGb.out (Below.drew (Below.refl _ _))) hgc); clear hoc hrc hgc hC3) | (go_at_call 109; ((with_reducible refine (HU.out _ _ _).mono ?_)); rintro e w5 ⟨rfl, rfl⟩))
            go_wp2
            go_big_quiet (first | (go_at_call 54; ((with_reducible refine (Err_calls R w.heap.size ⟨b3, a3, 20⟩ _ (HRc.out.drewN _)).mono ?_)); rintro e w6 ⟨rfl, rfl⟩; exact ⟨rfl, _, rfl⟩))
            go_wp2
            go_ret3
            exact ⟨.inl ⟨HN.out, rfl⟩, HB.out.grown (grown_below HGc.out (pw_below_drewN (Below.refl _ _) _)) HB.out.size (fun k e => by cases e; exact hR0)⟩
      · rw [if_pos (.inl he2)] at hgb
        have HN : Aside0 (getF bs n = none) := ⟨by rw [← HG1.out, hgb]⟩
        have HE2 := Aside0.mk he2
        clear hgb HG1 h1 h2
        go_wp2_with (first | (go_at_call 108; ((with_reducible refine (HInt.out _ HRD.out).mono ?_)); rintro e wa ⟨rfl, hra, hga⟩; have HRa := Aside0.mk hra; have HGa := Aside0.mk hga; clear hra hga) | (go_at_call 52; ((with_reducible refine (HBy1.out _ HRa.out).mono ?_)); rintro e wb2 ⟨vb, rfl, hob, hrb, hgb⟩; have HRb := Aside0.mk hrb; have HOb := Aside0.mk hob; have HGb := Aside0.mk (grown_trans HGa.out hgb); clear hrb hob hgb) | (go_at_call 54; ((with_reducible refine (Err_calls R w.heap.size s2 _ HRb.out).mono ?_)); rintro e w2 ⟨rfl, rfl⟩))
        go_ret3
        exact ⟨.inl ⟨HN.out, rfl⟩, HB.out.grown HGb.out HB.out.size (fun k e => by cases e; exact hR0)⟩
    · have e0 : nr = 0 := by omega
      have HF : Aside0 (getF bs n = some (l, st)) := ⟨by
        have h1 := HG.out
        have h2 : gk = 0 := by have := HK.out; omega
        rw [h2, getGo] at h1
        exact h1.symm⟩
      have hge : n ≤ l.length := by omega
      have hle := HRD.out.ok.le
      rw [HS.out] at hle
      have hww : IntKind.i64.wrap ((bs.length : Int) - ((st.bs.length : Int) - st.at')) = (st.at' : Int) := by rw [HS.out, IntKind.wrap_i64]; omega
      clear hlt e0 HG
      go_wp2_with (first | (go_at_call 112; ((with_reducible refine (ClipI_calls A1 l.length c1 _ hc1 HM1.out).mono ?_)); rintro e wa ⟨rfl, rfl⟩) | (go_at_call 88; ((with_reducible refine (Left_calls R w.heap.size st _ HRD.out).mono ?_)); rintro e wc ⟨rfl, hbc⟩; have HBc := Aside0.mk hbc; clear hbc))
      go_ret3
      exact ⟨.inr ⟨l, st, _, HF.out, rfl, Lax.clip (Lx.below HL.out HBc.out)⟩, HB.out.trans (HBc.out.mono HB.out.size)⟩
end Go.Proofs.Ytimlgpfcgklddaa.P
