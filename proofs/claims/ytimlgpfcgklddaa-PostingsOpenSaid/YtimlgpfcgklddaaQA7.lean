/-
Texts of this seat, laid together: A7, M5, A8, A3, A9.
-/
import Derived.RangeFuncNested
import Derived.RangeFuncBound
import Derived.RangeFuncCalls
import Derived.RangeFuncLeaves
import Derived.Shelf.Abstract
import Derived.Shelf.RegionOpen
import Derived.WalkKit
import Derived.OwnWalkIn
import Derived.TacticsInMore
import Derived.LoopNIn
import Derived.LoopIn
import Derived.RangeFuncBox
import Derived.Test.YtimlgpfcgklddaaQA1
import Derived.Test.YtimlgpfcgklddaaQA2
import Derived.Test.YtimlgpfcgklddaaQA4
import Derived.Test.YtimlgpfcgklddaaQA6
namespace Go.Proofs.Ytimlgpfcgklddaa.P
open Go.RowKit Go.Shelf Go.Proofs.YtimlgpfcgklddaaW.PrintWords Go.Proofs.YtimlgpfcgklddaaW.PrintLast Go.Proofs.YtimlgpfcgklddaaW.PrintMore
attribute [local go_sem] Oper.semAt_some
attribute [local go_sem] min2_mn min_two
set_option linter.unusedVariables false
set_option linter.unusedSimpArgs false
/-- What a round keeps for the iterator: its two boxes. -/
structure Keep2 (Bs Bn : Nat) (W W' : World) : Prop where
  s : W'.heap[Bs]? = W.heap[Bs]?
  n : W'.heap[Bn]? = W.heap[Bn]?
theorem Keep2.refl (Bs Bn : Nat) (W : World) : Keep2 Bs Bn W W := ⟨rfl, rfl⟩
theorem Keep2.trans {Bs Bn : Nat} {A B C : World} (h : Keep2 Bs Bn A B) (k : Keep2 Bs Bn B C) : Keep2 Bs Bn A C := ⟨k.s.trans h.s, k.n.trans h.n⟩
theorem Keep2.drew (Bs Bn : Nat) (W : World) : Keep2 Bs Bn W W.drew := ⟨rfl, rfl⟩
theorem Keep2.putObj {Bs Bn : Nat} {W : World} {l : Nat} (o' : Obj) (hs : Bs ≠ l) (hn : Bn ≠ l) : Keep2 Bs Bn W (W.putObj l o') := ⟨World.putObj_heap_other (fun e => hs e), World.putObj_heap_other (fun e => hn e)⟩
theorem Keep2.grown {Bs Bn : Nat} {W W' : World} {row : Option Nat} (hg : W.grownBy W' row) (hs : Bs < W.heap.size) (hn : Bn < W.heap.size) (h1 : some Bs ≠ row) (h2 : some Bn ≠ row) : Keep2 Bs Bn W W' := ⟨hg.block _ hs h1, hg.block _ hn h2⟩
theorem Keep2.b {w : World} {Bs Bn : Nat} (hBs : Bs < w.heap.size) (hBn : Bn < w.heap.size) (W : World) (l : Nat) (o o' : Obj) (hl : w.heap.size ≤ l) (_ : W.heap[l]? = some o) (_ : o.isCells = false) (_ : o.isWalk = false) : Keep2 Bs Bn W (W.putObj l o') := Keep2.putObj o' (by omega) (by omega)
/-- The j-th cut of N elements of a slice of n, elements of sz cells. -/
def cutLen (N n j : Nat) : Nat := min N (n - j * N)
def cutVal (sz : Nat) (ad : Addr) (N n j : Nat) : Value := .slice (some (ad.add (j * N * sz))) (cutLen N n j) (cutLen N n j)
def chunkVal (sz : Nat) (A : Option Addr) (N n j : Nat) : Value :=
  match A with
  | some ad => cutVal sz ad N n j
  | none => .slice none 0 0
def cuts (N n : Nat) : Nat := (n + N - 1) / N
theorem cuts_lt {N n k q : Nat} (hN : 1 ≤ N) (hkq : k * N = q) (h : q < n) : k < cuts N n := by
  unfold cuts
  rw [Nat.lt_iff_add_one_le, Nat.le_div_iff_mul_le (by omega), Nat.add_mul, Nat.one_mul, hkq]
  omega
theorem fin_take {n k : Nat} (h : k < n) : (List.finRange n).take (k + 1) = (List.finRange n).take k ++ [⟨k, h⟩] := by
  rw [List.take_succ_eq_append_getElem (by rw [List.length_finRange]; exact h)]
  simp
theorem cuts_le {N n k q : Nat} (hN : 1 ≤ N) (hkq : k * N = q) (h : n ≤ q) : cuts N n ≤ k := by
  unfold cuts
  rw [← Nat.lt_add_one_iff, Nat.div_lt_iff_lt_mul (by omega), Nat.add_mul, Nat.one_mul, hkq]
  omega

set_option maxRecDepth 100000 in
set_option maxHeartbeats 4000000 in
theorem chunk126_in (F : Fence) (n : Nat) (hF : F.fn 126) (hro : F.round = none) (hn : 1 ≤ n) (l Bs Bn N len cap : Nat) (ad : Addr) (hN : 1 ≤ N) (hN2 : N ≤ 1000) (hlen : len ≤ 140737488355328) (hcap : len ≤ cap) (J Jx : List (Fin (cuts N len)) → World → Prop)
    (hJd : ∀ pre W, J pre W → J pre W.drew)
    (hY : ∀ pre x W, J pre W → pre.length < cuts N len → YieldAt F (n - 1) Try.prog l #[cutVal 1 ad N len x.1] W fun e W' =>
      (e = .returned (.bool true) ∧ J (pre ++ [x]) W' ∧ Keep2 Bs Bn W W') ∨ (e = .returned (.bool false) ∧ Jx (pre ++ [x]) W'))
    (W : World) (hs : W.cell? ⟨Bs, 0, none⟩ = some (.slice (some ad) len cap)) (hnn : W.cell? ⟨Bn, 0, none⟩ = some (.int .i64 N)) (h0 : J [] W) :
    CallsIn F n Try.prog 126 #[.func (.yield l) #[] #[], .pointer (some ⟨Bs, 0, none⟩), .pointer (some ⟨Bn, 0, none⟩)] W fun e W' => (∃ v, e = .returned v) ∧
      ((∃ ys, ys = List.finRange (cuts N len) ∧ J ys W') ∨ (∃ pre, Jx pre W')) := by
  refine callsIn_of_wp Try.func126 rfl hF ?_ hro
  simp only [Try.ntmps126, List.size_toArray, List.length_cons, List.length_nil, Nat.reduceAdd, Nat.reduceSub, Array.replicate_succ, Array.replicate_zero, List.push_toArray, List.append_toArray, List.nil_append, List.cons_append]
  gi_wp2
  gi_loopw [4] (fun i wr => ∃ k q : Nat, i = .int .i64 q ∧ Aside0 (k * N = q) ∧ (k ≤ cuts N len) ∧ J ((List.finRange (cuts N len)).take k) wr ∧ Keep2 Bs Bn W wr)
    (fun i _ => len + N - (intOf i).toNat)
  case atStart => exact ⟨0, 0, rfl, ⟨by simp⟩, Nat.zero_le _, h0, Keep2.refl _ _ _⟩
  case round =>
    obtain ⟨k, q, rfl, HKQ, hk, hJs, hnx⟩ := hrel
    have hs' := (World.cell?_of_block (a := ⟨Bs, 0, none⟩) hnx.s).trans hs
    have hnn' := (World.cell?_of_block (a := ⟨Bn, 0, none⟩) hnx.n).trans hnn
    by_cases hlt : q < len
    · have hkc : k < cuts N len := cuts_lt hN HKQ.out hlt
      obtain ⟨fn, tmps, assign, body, hy, hR⟩ := hY ((List.finRange (cuts N len)).take k) ⟨k, hkc⟩ wr.drew (hJd _ _ hJs) (by rw [List.length_take, List.length_finRange]; omega)
      have hcq : ¬ cap = q := by omega
      obtain ⟨e, he⟩ : ∃ e, min N (len - q) = e := ⟨_, rfl⟩
      have he1 : 1 ≤ e := by omega
      have he2 : q + e ≤ len := by omega
      have heN : e ≤ N := by omega
      have hcv : cutVal 1 ad N len k = .slice (some (ad.add q)) e e := by
        unfold cutVal cutLen
        rw [HKQ.out, he]
        simp
      dsimp only at hy
      rw [hcv] at hy
      have HMN : Aside0 (mn (N : Int) ((len - q : Nat) : Int) = (e : Int)) := ⟨by unfold mn; split <;> omega⟩
      have hce : q + e - q = e := by omega
      clear he hcv
      gi_wp2
      gi_region
      all_goals
        rw [HMN.out]
        gi_wp2
        refine hR.mono ?_
        rintro e' W3 (⟨rfl, hJ3, hk3⟩ | ⟨rfl, hJx3⟩)
        · have hnx3 := hnx.trans ((Keep2.drew Bs Bn wr).trans hk3)
          have hnn3 := (World.cell?_of_block (a := ⟨Bn, 0, none⟩) hnx3.n).trans hnn
          gi_wp2
          go_roundw
          case rel => exact ⟨k + 1, q + N, by first | rfl | (simp; done), ⟨by have := HKQ.out; rw [Nat.add_mul, Nat.one_mul]; omega⟩, hkc, by rw [fin_take hkc]; exact hJ3, hnx3⟩
          case measure => simp [intOf]; omega
        · gi_wp2
          refine bodyPost_ret (results_none rfl _ _ _) rfl ?_
          exact ⟨⟨_, rfl⟩, .inr ⟨_, hJx3⟩⟩
    · have hge : len ≤ q := by omega
      have hkc := cuts_le hN HKQ.out hge
      have hkk : k = cuts N len := by omega
      rw [hkk] at hJs
      gi_wp2
      go_end0
      exact ⟨⟨_, rfl⟩, .inl ⟨_, rfl, by rw [List.take_of_length_le (by rw [List.length_finRange]; exact Nat.le_refl _)] at hJs; exact hJs⟩⟩
set_option maxRecDepth 100000 in
set_option maxHeartbeats 1000000 in
/-- .. at the nil slice: no round. -/
theorem chunk126_nil_in (F : Fence) (n : Nat) (hF : F.fn 126) (hro : F.round = none) {α : Type} (l Bs Bn c : Nat) (J : List α → World → Prop) (W : World) (hs : W.cell? ⟨Bs, 0, none⟩ = some (.slice none 0 c)) (h0 : J [] W) :
    CallsIn F n Try.prog 126 #[.func (.yield l) #[] #[], .pointer (some ⟨Bs, 0, none⟩), .pointer (some ⟨Bn, 0, none⟩)] W fun e W' => (∃ v, e = .returned v) ∧ J [] W' := by
  refine callsIn_of_wp Try.func126 rfl hF ?_ hro
  simp only [Try.ntmps126, List.size_toArray, List.length_cons, List.length_nil, Nat.reduceAdd, Nat.reduceSub, Array.replicate_succ, Array.replicate_zero, List.push_toArray, List.append_toArray, List.nil_append, List.cons_append]
  gi_wp2
  gi_loopw [4] (fun i wr => i = .int .i64 0 ∧ J [] wr ∧ wr.cell? ⟨Bs, 0, none⟩ = some (.slice none 0 c)) (fun _ _ => 0)
  case atStart => exact ⟨rfl, h0, hs⟩
  case round =>
    obtain ⟨rfl, hJs, hs'⟩ := hrel
    gi_wp2
    go_end0
    exact ⟨⟨_, rfl⟩, hJs⟩
set_option maxHeartbeats 1000000 in
theorem Chunk102_calls (A : Option Addr) (len cap N : Nat) (w : World) (hN : 1 ≤ N) (hN2 : N ≤ 1000) :
    Calls Try.prog 102 #[.slice A len cap, .int .i64 N] w fun e w' => e = .returned (.func (.func 126) #[] #[.pointer (some ⟨w.heap.size, 0, none⟩), .pointer (some ⟨w.heap.size + 1, 0, none⟩)]) ∧ w' = (w.alloc (.cells #[.slice A len cap] 85)).alloc (.cells #[.int .i64 N] 3) := by
  go_enter Try.func102, Try.ntmps102
  go_wp2
  go_ret
  exact ⟨rfl, rfl⟩
/-- The whole contract: a slice that reads as n elements. -/
theorem chunk126_stops (F : Fence) (n : Nat) (hF : F.fn 126) (hro : F.round = none) (hn : 1 ≤ n) (Bs Bn N len cap : Nat) (A : Option Addr) (hN : 1 ≤ N) (hN2 : N ≤ 1000) (hlen : len ≤ 140737488355328) (hcap : len ≤ cap) (hA : A = none → len = 0) (w : World) (hBs : Bs < w.heap.size) (hBn : Bn < w.heap.size)
    (hs : w.cell? ⟨Bs, 0, none⟩ = some (.slice A len cap)) (hnn : w.cell? ⟨Bn, 0, none⟩ = some (.int .i64 N)) :
    SeqStopsK F n Try.prog 126 #[.pointer (some ⟨Bs, 0, none⟩), .pointer (some ⟨Bn, 0, none⟩)] (fun j : Fin (cuts N len) => #[chunkVal 1 A N len j.1]) (Keep2 Bs Bn) (fun ys => ys = List.finRange (cuts N len)) (fun _ => True) (cuts N len) w := fun l J Jx W hW hJ _ hY h0 => by
  have hs' := (hW.cell (p := ⟨Bs, 0, none⟩) hBs).trans hs
  have hnn' := (hW.cell (p := ⟨Bn, 0, none⟩) hBn).trans hnn
  rcases A with _ | ad
  · have h0' := hA rfl
    subst h0'
    refine (chunk126_nil_in F n hF hro l Bs Bn cap J W hs' h0).mono fun e W' ⟨he, hj⟩ => ⟨he, .inl ⟨_, ?_, hj⟩⟩
    have : cuts N 0 = 0 := by unfold cuts; exact Nat.div_eq_of_lt (by omega)
    exact (List.eq_nil_of_length_eq_zero (by rw [List.length_finRange]; exact this)).symm
  · refine (chunk126_in F n hF hro hn l Bs Bn N len cap ad hN hN2 hlen hcap J Jx (fun pre W h => hJ pre W W.drew none h ⟨rfl, rfl, rfl, Nat.le_refl _, fun _ _ _ => rfl⟩ (fun r e => by cases e)) hY W hs' hnn' h0).mono ?_
    rintro e W' ⟨he, ⟨ys, rfl, hj⟩ | ⟨pre, hj⟩⟩
    · exact ⟨he, .inl ⟨_, rfl, hj⟩⟩
    · exact ⟨he, .inr ⟨_, trivial, hj⟩⟩

set_option maxRecDepth 100000 in
set_option maxHeartbeats 4000000 in
theorem chunk75_in (F : Fence) (n : Nat) (hF : F.fn 75) (hro : F.round = none) (hn : 1 ≤ n) (l Bs Bn N len cap : Nat) (ad : Addr) (hN : 1 ≤ N) (hN2 : N ≤ 1000) (hlen : len ≤ 140737488355328) (hcap : len ≤ cap) (J Jx : List (Fin (cuts N len)) → World → Prop)
    (hJd : ∀ pre W, J pre W → J pre W.drew)
    (hY : ∀ pre x W, J pre W → pre.length < cuts N len → YieldAt F (n - 1) Try.prog l #[cutVal 2 ad N len x.1] W fun e W' =>
      (e = .returned (.bool true) ∧ J (pre ++ [x]) W' ∧ Keep2 Bs Bn W W') ∨ (e = .returned (.bool false) ∧ Jx (pre ++ [x]) W'))
    (W : World) (hs : W.cell? ⟨Bs, 0, none⟩ = some (.slice (some ad) len cap)) (hnn : W.cell? ⟨Bn, 0, none⟩ = some (.int .i64 N)) (h0 : J [] W) :
    CallsIn F n Try.prog 75 #[.func (.yield l) #[] #[], .pointer (some ⟨Bs, 0, none⟩), .pointer (some ⟨Bn, 0, none⟩)] W fun e W' => (∃ v, e = .returned v) ∧
      ((∃ ys, ys = List.finRange (cuts N len) ∧ J ys W') ∨ (∃ pre, Jx pre W')) := by
  refine callsIn_of_wp Try.func75 rfl hF ?_ hro
  simp only [Try.ntmps75, List.size_toArray, List.length_cons, List.length_nil, Nat.reduceAdd, Nat.reduceSub, Array.replicate_succ, Array.replicate_zero, List.push_toArray, List.append_toArray, List.nil_append, List.cons_append]
  gi_wp2
  gi_loopw [4] (fun i wr => ∃ k q : Nat, i = .int .i64 q ∧ Aside0 (k * N = q) ∧ (k ≤ cuts N len) ∧ J ((List.finRange (cuts N len)).take k) wr ∧ Keep2 Bs Bn W wr)
    (fun i _ => len + N - (intOf i).toNat)
  case atStart => exact ⟨0, 0, rfl, ⟨by simp⟩, Nat.zero_le _, h0, Keep2.refl _ _ _⟩
  case round =>
    obtain ⟨k, q, rfl, HKQ, hk, hJs, hnx⟩ := hrel
    have hs' := (World.cell?_of_block (a := ⟨Bs, 0, none⟩) hnx.s).trans hs
    have hnn' := (World.cell?_of_block (a := ⟨Bn, 0, none⟩) hnx.n).trans hnn
    by_cases hlt : q < len
    · have hkc : k < cuts N len := cuts_lt hN HKQ.out hlt
      obtain ⟨fn, tmps, assign, body, hy, hR⟩ := hY ((List.finRange (cuts N len)).take k) ⟨k, hkc⟩ wr.drew (hJd _ _ hJs) (by rw [List.length_take, List.length_finRange]; omega)
      have hcq : ¬ cap = q := by omega
      obtain ⟨e, he⟩ : ∃ e, min N (len - q) = e := ⟨_, rfl⟩
      have he1 : 1 ≤ e := by omega
      have he2 : q + e ≤ len := by omega
      have heN : e ≤ N := by omega
      have hcv : cutVal 2 ad N len k = .slice (some (ad.add (q * 2))) e e := by
        unfold cutVal cutLen
        rw [HKQ.out, he]
      dsimp only at hy
      rw [hcv] at hy
      have HMN : Aside0 (mn (N : Int) ((len - q : Nat) : Int) = (e : Int)) := ⟨by unfold mn; split <;> omega⟩
      have hce : q + e - q = e := by omega
      clear he hcv
      gi_wp2
      gi_region
      all_goals
        rw [HMN.out]
        gi_wp2
        refine hR.mono ?_
        rintro e' W3 (⟨rfl, hJ3, hk3⟩ | ⟨rfl, hJx3⟩)
        · have hnx3 := hnx.trans ((Keep2.drew Bs Bn wr).trans hk3)
          have hnn3 := (World.cell?_of_block (a := ⟨Bn, 0, none⟩) hnx3.n).trans hnn
          gi_wp2
          go_roundw
          case rel => exact ⟨k + 1, q + N, by first | rfl | (simp; done), ⟨by have := HKQ.out; rw [Nat.add_mul, Nat.one_mul]; omega⟩, hkc, by rw [fin_take hkc]; exact hJ3, hnx3⟩
          case measure => simp [intOf]; omega
        · gi_wp2
          refine bodyPost_ret (results_none rfl _ _ _) rfl ?_
          exact ⟨⟨_, rfl⟩, .inr ⟨_, hJx3⟩⟩
    · have hge : len ≤ q := by omega
      have hkc := cuts_le hN HKQ.out hge
      have hkk : k = cuts N len := by omega
      rw [hkk] at hJs
      gi_wp2
      go_end0
      exact ⟨⟨_, rfl⟩, .inl ⟨_, rfl, by rw [List.take_of_length_le (by rw [List.length_finRange]; exact Nat.le_refl _)] at hJs; exact hJs⟩⟩
set_option maxRecDepth 100000 in
set_option maxHeartbeats 1000000 in
/-- .. at the nil slice: no round. -/
theorem chunk75_nil_in (F : Fence) (n : Nat) (hF : F.fn 75) (hro : F.round = none) {α : Type} (l Bs Bn c : Nat) (J : List α → World → Prop) (W : World) (hs : W.cell? ⟨Bs, 0, none⟩ = some (.slice none 0 c)) (h0 : J [] W) :
    CallsIn F n Try.prog 75 #[.func (.yield l) #[] #[], .pointer (some ⟨Bs, 0, none⟩), .pointer (some ⟨Bn, 0, none⟩)] W fun e W' => (∃ v, e = .returned v) ∧ J [] W' := by
  refine callsIn_of_wp Try.func75 rfl hF ?_ hro
  simp only [Try.ntmps75, List.size_toArray, List.length_cons, List.length_nil, Nat.reduceAdd, Nat.reduceSub, Array.replicate_succ, Array.replicate_zero, List.push_toArray, List.append_toArray, List.nil_append, List.cons_append]
  gi_wp2
  gi_loopw [4] (fun i wr => i = .int .i64 0 ∧ J [] wr ∧ wr.cell? ⟨Bs, 0, none⟩ = some (.slice none 0 c)) (fun _ _ => 0)
  case atStart => exact ⟨rfl, h0, hs⟩
  case round =>
    obtain ⟨rfl, hJs, hs'⟩ := hrel
    gi_wp2
    go_end0
    exact ⟨⟨_, rfl⟩, hJs⟩
set_option maxHeartbeats 1000000 in
theorem Chunk43_calls (A : Option Addr) (len cap N : Nat) (w : World) (hN : 1 ≤ N) (hN2 : N ≤ 1000) :
    Calls Try.prog 43 #[.slice A len cap, .int .i64 N] w fun e w' => e = .returned (.func (.func 75) #[] #[.pointer (some ⟨w.heap.size, 0, none⟩), .pointer (some ⟨w.heap.size + 1, 0, none⟩)]) ∧ w' = (w.alloc (.cells #[.slice A len cap] 22)).alloc (.cells #[.int .i64 N] 3) := by
  go_enter Try.func43, Try.ntmps43
  go_wp2
  go_ret
  exact ⟨rfl, rfl⟩
/-- The whole contract: a slice that reads as n elements. -/
theorem chunk75_stops (F : Fence) (n : Nat) (hF : F.fn 75) (hro : F.round = none) (hn : 1 ≤ n) (Bs Bn N len cap : Nat) (A : Option Addr) (hN : 1 ≤ N) (hN2 : N ≤ 1000) (hlen : len ≤ 140737488355328) (hcap : len ≤ cap) (hA : A = none → len = 0) (w : World) (hBs : Bs < w.heap.size) (hBn : Bn < w.heap.size)
    (hs : w.cell? ⟨Bs, 0, none⟩ = some (.slice A len cap)) (hnn : w.cell? ⟨Bn, 0, none⟩ = some (.int .i64 N)) :
    SeqStopsK F n Try.prog 75 #[.pointer (some ⟨Bs, 0, none⟩), .pointer (some ⟨Bn, 0, none⟩)] (fun j : Fin (cuts N len) => #[chunkVal 2 A N len j.1]) (Keep2 Bs Bn) (fun ys => ys = List.finRange (cuts N len)) (fun _ => True) (cuts N len) w := fun l J Jx W hW hJ _ hY h0 => by
  have hs' := (hW.cell (p := ⟨Bs, 0, none⟩) hBs).trans hs
  have hnn' := (hW.cell (p := ⟨Bn, 0, none⟩) hBn).trans hnn
  rcases A with _ | ad
  · have h0' := hA rfl
    subst h0'
    refine (chunk75_nil_in F n hF hro l Bs Bn cap J W hs' h0).mono fun e W' ⟨he, hj⟩ => ⟨he, .inl ⟨_, ?_, hj⟩⟩
    have : cuts N 0 = 0 := by unfold cuts; exact Nat.div_eq_of_lt (by omega)
    exact (List.eq_nil_of_length_eq_zero (by rw [List.length_finRange]; exact this)).symm
  · refine (chunk75_in F n hF hro hn l Bs Bn N len cap ad hN hN2 hlen hcap J Jx (fun pre W h => hJ pre W W.drew none h ⟨rfl, rfl, rfl, Nat.le_refl _, fun _ _ _ => rfl⟩ (fun r e => by cases e)) hY W hs' hnn' h0).mono ?_
    rintro e W' ⟨he, ⟨ys, rfl, hj⟩ | ⟨pre, hj⟩⟩
    · exact ⟨he, .inl ⟨_, rfl, hj⟩⟩
    · exact ⟨he, .inr ⟨_, trivial, hj⟩⟩
end Go.Proofs.Ytimlgpfcgklddaa.P
namespace Go.Proofs.Ytimlgpfcgklddaa
open Go.RowKit
/-- The least number. -/
def minI : List Int → Int
  | [] => 0
  | x :: r => r.foldl (fun a b => if b < a then b else a) x
theorem minI_snoc (l : List Int) (h : l ≠ []) (x : Int) : minI (l ++ [x]) = if x < minI l then x else minI l := by
  cases l with
  | nil => exact absurd rfl h
  | cons y r =>
    show (r ++ [x]).foldl (fun a b => if b < a then b else a) y = _
    rw [List.foldl_append]
    rfl
theorem minI_le (l : List Int) : ∀ x ∈ l, minI l ≤ x := by
  cases l with
  | nil => intro x hx; cases hx
  | cons y r =>
    have : ∀ (r : List Int) (a : Int), (r.foldl (fun a b => if b < a then b else a) a ≤ a) ∧ ∀ x ∈ r, r.foldl (fun a b => if b < a then b else a) a ≤ x := by
      intro r
      induction r with
      | nil => intro a; exact ⟨Int.le_refl _, fun x hx => by cases hx⟩
      | cons z q ih =>
        intro a
        rw [List.foldl_cons]
        obtain ⟨h1, h2⟩ := ih (if z < a then z else a)
        have h3 : (if z < a then z else a) ≤ a ∧ (if z < a then z else a) ≤ z := by split <;> omega
        refine ⟨by omega, fun x hx => ?_⟩
        rcases List.mem_cons.1 hx with rfl | hx
        · omega
        · exact h2 x hx
    intro x hx
    obtain ⟨h1, h2⟩ := this r y
    rcases List.mem_cons.1 hx with rfl | hx
    · exact h1
    · exact h2 x hx
theorem minI_mem (l : List Int) (h : l ≠ []) : minI l ∈ l := by
  cases l with
  | nil => exact absurd rfl h
  | cons y r =>
    have : ∀ (r : List Int) (a : Int), r.foldl (fun a b => if b < a then b else a) a ∈ a :: r := by
      intro r
      induction r with
      | nil => intro a; exact List.mem_cons_self
      | cons z q ih =>
        intro a
        rw [List.foldl_cons]
        have h1 := ih (if z < a then z else a)
        rcases List.mem_cons.1 h1 with h2 | h2
        · rw [h2]
          split
          · exact List.mem_cons_of_mem _ List.mem_cons_self
          · exact List.mem_cons_self
        · exact List.mem_cons_of_mem _ (List.mem_cons_of_mem _ h2)
    exact this r y
/-- What is above the least one, as unsigned numbers. -/
def above (l : List Int) : List Int := l.map fun n => (n - minI l) % 18446744073709551616
theorem above_length (l : List Int) : (above l).length = l.length := by simp [above]
theorem above_range (l : List Int) : ∀ x ∈ above l, 0 ≤ x ∧ x < 18446744073709551616 := by
  intro x hx
  unfold above at hx
  obtain ⟨y, _, rfl⟩ := List.mem_map.1 hx
  omega
theorem bitLen_lt (x : Nat) (h : x < 2 ^ 64) : x < 2 ^ Lib.bitLen x := by
  have aux : ∀ (f x : Nat), x < 2 ^ f → x < 2 ^ Lib.bitLenAux f x := by
    intro f
    induction f with
    | zero => intro x hx; simpa [Lib.bitLenAux] using hx
    | succ f ih =>
      intro x hx
      unfold Lib.bitLenAux
      split
      · rename_i h0; subst h0; decide
      · have h1 : x / 2 < 2 ^ f := by rw [Nat.pow_succ] at hx; omega
        have h2 := ih _ h1
        rw [Nat.add_comm, Nat.pow_succ]
        omega
  exact aux 64 x h
theorem bitLen_le64 (x : Nat) : Lib.bitLen x ≤ 64 := by
  have aux : ∀ (f x : Nat), Lib.bitLenAux f x ≤ f := by
    intro f
    induction f with
    | zero => intro x; exact Nat.le_refl _
    | succ f ih =>
      intro x
      unfold Lib.bitLenAux
      split
      · omega
      · have := ih (x / 2); omega
  exact aux 64 x
theorem widthOf_le (l : List Int) : widthOf l ≤ 64 := bitLen_le64 _
theorem le_orAll (l : List Int) (h : ∀ x ∈ l, 0 ≤ x ∧ x < 18446744073709551616) : ∀ x ∈ l, x ≤ orAll l := by
  have : ∀ (l : List Int) (a : Int), (∀ x ∈ l, 0 ≤ x ∧ x < 18446744073709551616) → 0 ≤ a → a < 18446744073709551616 → a ≤ l.foldl (fun a b => bits .or .u64 a b) a ∧ ∀ x ∈ l, x ≤ l.foldl (fun a b => bits .or .u64 a b) a := by
    intro l
    induction l with
    | nil => intro a _ _ _; exact ⟨Int.le_refl _, fun x hx => by cases hx⟩
    | cons z q ih =>
      intro a hq h0 h1
      rw [List.foldl_cons]
      obtain ⟨z0, z1⟩ := hq z List.mem_cons_self
      obtain ⟨m, rfl⟩ := Int.eq_ofNat_of_zero_le h0
      obtain ⟨p, rfl⟩ := Int.eq_ofNat_of_zero_le z0
      rw [bits_or_nat m p (by omega) (by omega)]
      have h2 : m ||| p < 2 ^ 64 := Nat.or_lt_two_pow (by omega) (by omega)
      have h3 : m ≤ m ||| p := Nat.left_le_or
      have h4 : p ≤ m ||| p := Nat.right_le_or
      obtain ⟨h5, h6⟩ := ih ((m ||| p : Nat) : Int) (fun y hy => hq y (List.mem_cons_of_mem _ hy)) (by omega) (by omega)
      refine ⟨by omega, fun x hx => ?_⟩
      rcases List.mem_cons.1 hx with rfl | hx
      · omega
      · exact h6 x hx
  exact (this l 0 h (by omega) (by omega)).2
theorem width_fits (l : List Int) (h : ∀ x ∈ l, 0 ≤ x ∧ x < 18446744073709551616) : ∀ x ∈ l, 0 ≤ x ∧ x.toNat < 2 ^ widthOf l := by
  intro x hx
  have h1 := le_orAll l h x hx
  have h2 := orAll_range l h
  have h3 := bitLen_lt (orAll l).toNat (by omega)
  have h4 := h x hx
  refine ⟨h4.1, ?_⟩
  unfold widthOf
  omega
/-- A block's form. -/
def packOne (l : List Int) : List Int := uv (zz (minI l)) ++ [(widthOf (above l) : Int)] ++ leB ((widthOf (above l) * l.length + 7) / 8) (packN (widthOf (above l)) (above l))
theorem packOne_len (l : List Int) (h : ∀ x ∈ l, -9223372036854775808 ≤ x ∧ x ≤ 9223372036854775807) : 2 ≤ (packOne l).length ∧ (packOne l).length ≤ 12 + 8 * l.length := by
  unfold packOne
  have h1 : -9223372036854775808 ≤ minI l ∧ minI l ≤ 9223372036854775807 := by
    by_cases hn : l = []
    · rw [hn]; decide
    · exact h _ (minI_mem l hn)
  have h2 := zz_range h1.1 h1.2
  have h3 := uv_len h2.2
  have h4 : widthOf (above l) * l.length ≤ 64 * l.length := Nat.mul_le_mul_right _ (widthOf_le _)
  simp only [List.length_append, List.length_singleton, leB_length]
  omega
/-- The j-th cut of N elements of a list. -/
def chunkOf {α : Type} (N : Nat) (l : List α) (j : Nat) : List α := (l.drop (j * N)).take N
/-- A row's form. -/
def packPut (l : List Int) : List Int := (List.range ((l.length + 127) / 128)).flatMap fun j => packOne (chunkOf 128 l j)
end Go.Proofs.Ytimlgpfcgklddaa
namespace Go.Proofs.Ytimlgpfcgklddaa.P
open Go.RowKit Go.Proofs.YtimlgpfcgklddaaW.PrintWords Go.Proofs.YtimlgpfcgklddaaW.PrintLast Go.Proofs.YtimlgpfcgklddaaW.PrintMore
attribute [local go_sem] min2_mn min_two
set_option linter.unusedVariables false
set_option linter.unusedSimpArgs false
set_option maxHeartbeats 1000000 in
theorem Min_calls (A : Option Addr) (l : List Int) (c : Nat) (w : World) (h : (Kd.int .i64).C w A l.length l) (hc : l.length ≤ c) (hn : 1 ≤ l.length) :
    Calls Try.prog 103 #[.slice A l.length c] w fun e w' => e = .returned (.int .i64 (minI l)) ∧ w = w' := by
  have H := Aside0.mk h
  have hm := Kd.C_max h
  have HM := Aside0.mk (Kd.C_max h)
  obtain ⟨ad, rfl, hx0⟩ := Kd.at_int h 0 (by omega) (by omega)
  have hx : w.cell? ad = some (.int .i64 (rd l 0)) := hx0
  clear h hx0
  have HN := Aside0.mk hn
  have hb : decide (l.length < 1) = false := decide_eq_false (by omega)
  have hb2 : decide (0 < l.length) = true := decide_eq_true (by omega)
  go_enter Try.func103, Try.ntmps103
  go_wp2
  go_loopg [3, 4] l.length (fun kq v3 v4 w' => ∃ k : Nat, v4 = .int .i64 k ∧ Aside0 (1 ≤ k ∧ k ≤ l.length) ∧ v3 = .int .i64 (minI (l.take k)) ∧ Aside0 (l.length - k ≤ kq) ∧ w = w')
  case atStart => exact ⟨1, by first | rfl | (simp; done), ⟨by omega, hn⟩, by
    cases l with
    | nil => simp at hn
    | cons y r => rfl, ⟨by omega⟩, rfl⟩
  case round =>
    clear hx hb hb2
    obtain ⟨k, rfl, hk, rfl, HK, rfl⟩ := hrel
    obtain ⟨s, hs⟩ : ∃ s, minI (l.take k) = s := ⟨_, rfl⟩
    rw [hs]
    have HS := Aside0.mk hs
    clear hs
    by_cases hlt : k < l.length
    · obtain ⟨ad', e', hx⟩ := Kd.at_int H.out (k : Int) (by omega) (by omega)
      cases e'
      rw [Int.toNat_natCast] at hx
      have HT := Aside0.mk (take_rd l k hlt)
      go_wp2
      go_roundg (l.length - (k + 1))
      case measure => have := HK.out; omega
      case rel =>
        refine ⟨k + 1, by first | rfl | (simp; done), ⟨by omega, hlt⟩, ?_, ⟨Nat.le_refl _⟩, rfl⟩
        rw [HT.out, minI_snoc _ (by intro e0; have h1 := congrArg List.length e0; rw [List.length_take, List.length_nil] at h1; have := hk.out; omega), HS.out]
        rfl
    · have e : k = l.length := by have := hk.out; omega
      have HS2 := Aside0.mk (show minI l = s by rw [← HS.out, e, List.take_length])
      have hge : l.length ≤ k := by omega
      clear hlt e
      go_wp2
      go_ret
      exact ⟨by rw [HS2.out]; rfl, rfl⟩
theorem zig_val {n : Int} (h0 : -9223372036854775808 ≤ n) (h1 : n ≤ 9223372036854775807) : bits BinOp.xor IntKind.u64 (IntKind.u64.wrap (wrap64 (n * 2))) (IntKind.u64.wrap (n / 9223372036854775808)) = zz n := by
  rw [wrap_u64, wrap_u64]
  unfold wrap64 zz
  by_cases hn : 0 ≤ n
  · rw [if_pos hn, show n / 9223372036854775808 = 0 from by omega, show (0 : Int) % 18446744073709551616 = 0 from rfl, xor_zero (by omega) (by omega)]
    omega
  · rw [if_neg hn, show n / 9223372036854775808 = -1 from by omega, show (-1 : Int) % 18446744073709551616 = 18446744073709551615 from rfl, xor_ones (by omega) (by omega)]
    omega
set_option maxHeartbeats 400000 in
theorem zig_calls (n : Int) (w : World) (h0 : -9223372036854775808 ≤ n) (h1 : n ≤ 9223372036854775807) : Calls Try.prog 121 #[.int .i64 n] w fun e w' => e = .returned (.int .u64 (zz n)) ∧ w = w' := by
  have HV := Aside0.mk (zig_val h0 h1)
  go_enter Try.func121, Try.ntmps121
  go_wp2
  go_ret
  exact ⟨by rw [← HV.out]; rfl, rfl⟩
set_option maxHeartbeats 800000 in
theorem puti_calls (A : Option Addr) (xs : List Int) (c : Nat) (n : Int) (w : World) (h : (Kd.int .u8).C w A xs.length xs) (hc : xs.length ≤ c) (hl : xs.length ≤ 140737488355300) (hn0 : -9223372036854775808 ≤ n) (hn1 : n ≤ 9223372036854775807) :
    Calls Try.prog 120 #[.slice A xs.length c, .int .i64 n, .func (.func 121) #[] #[]] w fun e w' => ∃ v, e = .returned v ∧ Lx .u8 5 w' w.heap.size v (xs ++ uv (zz n)) ∧ Below w.heap.size w w' := by
  obtain ⟨hu0, hu⟩ := zz_range hn0 hn1
  obtain ⟨u, hu_⟩ : ∃ u, zz n = u := ⟨_, rfl⟩
  rw [hu_] at hu0 hu ⊢
  have HZ := Aside0.mk hu_
  clear hu_
  have H := Aside0.mk h
  have HL := Aside0.mk hl
  clear h hl
  go_enter Try.func120, Try.ntmps120
  go_wp2_with (first | (go_at_call 79; ((with_reducible refine (Clone_calls _ _ _ _ H.out hc (by have := HL.out; omega)).mono ?_)); rintro e w1 ⟨v1, rfl, ho, hb⟩; have HO := Aside0.mk ho; have HB := Aside0.mk hb; clear ho hb) | (go_at_call 121; ((with_reducible refine (zig_calls _ _ hn0 hn1).mono ?_)); rintro e w2 ⟨rfl, rfl⟩; rw [HZ.out]))
  go_loopg [7, 8] u.toNat (fun kq v7 v8 w' => ∃ (pre : List Int) (uu : Int), v8 = .int .u64 uu ∧ Aside0 (0 ≤ uu ∧ uu < 18446744073709551616) ∧ Aside0 (pre ++ uv uu = uv u) ∧ Aside0 (Lx .u8 5 w' w.heap.size v7 (xs ++ pre)) ∧ Aside0 (Below w.heap.size w w') ∧ Aside0 (uu.toNat ≤ kq))
  case atStart => exact ⟨[], u, rfl, ⟨⟨hu0, hu⟩⟩, ⟨rfl⟩, ⟨by simpa using HO.out⟩, HB, ⟨Nat.le_refl _⟩⟩
  case round =>
    clear HO HB
    obtain ⟨pre, uu, rfl, HU, HP, HO, HB, HK⟩ := hrel
    have HLp := Aside0.mk (show pre.length + (uv uu).length ≤ 10 by have := congrArg List.length HP.out; rw [List.length_append] at this; have := (uv_len hu).2; omega)
    obtain ⟨hu1, hu2⟩ := HU.out
    clear HU
    by_cases hbig : 127 < uu
    · have HS := Aside0.mk (uv_big hbig)
      have e1 : Aside0 ((xs ++ pre).length + 1 ≤ 140737488355320) := ⟨by have := HLp.out; have := HL.out; simp only [List.length_append]; omega⟩
      have H8 := Aside0.mk (or128 hu1)
      go_wp2_with ((with_reducible refine gate_builtin (b := .append) (xs := #[.tmp 18, .tmp 22]) rfl ?_); at_builtin; refine Lx.append_one (w0 := w) .u8 w.heap.size rfl (.tmp 18) (.tmp 22) 25 5 1 rfl Try.underlying25 info5 (by decide) u7 (xs ++ pre) _ rfl rfl ?aO ?aB ?aS ?aL ?_; (case aO => exact HO.out); (case aB => exact HB.out); (case aS => exact below_size HB.out); (case aL => have := e1.out; omega); clear HO HB; intro v2 w2 ho hb hg hat; have HO := Aside0.mk ho; have HB := Aside0.mk hb; clear ho hb hg hat)
      go_roundg (uu / 128).toNat
      case measure => have := HK.out; omega
      case rel => exact ⟨pre ++ [uu % 128 + 128], uu / 128, rfl, ⟨by omega, by omega⟩, ⟨by rw [List.append_assoc, List.singleton_append, ← HS.out]; exact HP.out⟩, ⟨by rw [← List.append_assoc, ← H8.out]; exact HO.out⟩, HB, ⟨Nat.le_refl _⟩⟩
    · have HS := Aside0.mk (uv_small hu1 (by omega))
      have e1 : Aside0 ((xs ++ pre).length + 1 ≤ 140737488355320) := ⟨by have := HLp.out; have := HL.out; simp only [List.length_append]; omega⟩
      go_wp2_with (first | ((with_reducible refine gate_builtin (b := .append) (xs := #[.tmp 24, .tmp 27]) rfl ?_); at_builtin; refine Lx.append_one (w0 := w) .u8 w.heap.size rfl (.tmp 24) (.tmp 27) 25 5 1 rfl Try.underlying25 info5 (by decide) u7 (xs ++ pre) _ rfl rfl ?aO ?aB ?aS ?aL ?_; (case aO => exact HO.out); (case aB => exact HB.out); (case aS => exact below_size HB.out); (case aL => have := e1.out; omega); clear HO HB; intro v2 w2 ho hb hg hat; obtain ⟨ys, hys⟩ : ∃ ys, xs ++ pre ++ [uu] = ys := ⟨_, rfl⟩; rw [hys] at ho; have HY := Aside0.mk hys; clear hys; have HO := Aside0.mk ho; have HB := Aside0.mk hb; clear ho hb hg hat; obtain ⟨A2, c2, rfl, hc2, hC2⟩ := HO.out.reads; have HC2 := Aside0.mk hC2; clear hC2) | (go_at_call 45; ((with_reducible refine (Clip_calls _ _ _ _ hc2 (Kd.C_max HC2.out)).mono ?_)); rintro e w3 ⟨rfl, rfl⟩))
      go_ret
      have e2 : xs ++ pre ++ [uu] = xs ++ uv u := by rw [← HP.out, HS.out, List.append_assoc]
      exact ⟨_, rfl, by rw [← e2, HY.out]; exact Lax.clip HO.out, HB.out⟩

set_option maxHeartbeats 400000 in
theorem PutUint_calls (A : Option Addr) (xs : List Int) (c : Nat) (u : Int) (w : World) (h : (Kd.int .u8).C w A xs.length xs) (hc : xs.length ≤ c) (hl : xs.length ≤ 140737488355300) (hu0 : 0 ≤ u) (hu : u < 18446744073709551616) :
    Calls Try.prog 42 #[.slice A xs.length c, .int .u64 u] w fun e w' => ∃ v, e = .returned v ∧ Lx .u8 5 w' w.heap.size v (xs ++ uv u) ∧ Below w.heap.size w w' := by
  have H := Aside0.mk h
  have HL := Aside0.mk hl
  clear h hl
  go_enter Try.func42, Try.ntmps42
  go_wp2_with (go_at_call 73; ((with_reducible refine (put_calls _ _ _ _ _ H.out hc HL.out hu0 hu).mono ?_)); rintro e w1 ⟨v1, rfl, ho, hb⟩; have HO := Aside0.mk ho; have HB := Aside0.mk hb; clear ho hb)
  go_ret
  exact ⟨_, rfl, HO.out, HB.out⟩
set_option maxHeartbeats 400000 in
theorem PutInt_calls (A : Option Addr) (xs : List Int) (c : Nat) (n : Int) (w : World) (h : (Kd.int .u8).C w A xs.length xs) (hc : xs.length ≤ c) (hl : xs.length ≤ 140737488355300) (hn0 : -9223372036854775808 ≤ n) (hn1 : n ≤ 9223372036854775807) :
    Calls Try.prog 91 #[.slice A xs.length c, .int .i64 n] w fun e w' => ∃ v, e = .returned v ∧ Lx .u8 5 w' w.heap.size v (xs ++ uv (zz n)) ∧ Below w.heap.size w w' := by
  have H := Aside0.mk h
  have HL := Aside0.mk hl
  clear h hl
  go_enter Try.func91, Try.ntmps91
  go_wp2_with (go_at_call 120; ((with_reducible refine (puti_calls _ _ _ _ _ H.out hc HL.out hn0 hn1).mono ?_)); rintro e w1 ⟨v1, rfl, ho, hb⟩; have HO := Aside0.mk ho; have HB := Aside0.mk hb; clear ho hb)
  go_ret
  exact ⟨_, rfl, HO.out, HB.out⟩
end Go.Proofs.Ytimlgpfcgklddaa.P
namespace Go.Proofs.Ytimlgpfcgklddaa
open Go.RowKit Go.Proofs.YtimlgpfcgklddaaW.PrintWords
namespace Lx
theorem far {k : IntKind} {e : TypeId} {w : World} {base : Nat} {v : Value} {xs : List Int} (h : Lx k e w base v xs) {p : Addr} (hne : ∀ j, v.ownBlock = some j → j ≠ p.block) (u : Value) : Lx k e (w.setCell p u) base v xs := Lax.far h hne u
theorem grown {k : IntKind} {e : TypeId} {w w1 : World} {base : Nat} {v : Value} {xs : List Int} (h : Lx k e w base v xs) {row : Option Nat} (hg : w.grownBy w1 row) (hne : ∀ j, v.ownBlock = some j → some j ≠ row) : Lx k e w1 base v xs := Lax.grown h hg hne
theorem own {k : IntKind} {e : TypeId} {w w1 : World} {base : Nat} {v : Value} {xs : List Int} (h : Lx k e w base v xs) {row : Option Nat} (hg : w.grownBy w1 row) (hr : ∀ r, row = some r → ∃ o : Obj, w.heap[r]? = some o ∧ o.isCells = false) : Lx k e w1 base v xs := h.grown hg fun j hj e => by
  obtain ⟨cells, hc⟩ := Lax.typed h j hj
  obtain ⟨_, o, ho, hn⟩ := (⟨trivial, hr j e.symm⟩ : True ∧ ∃ o : Obj, w.heap[j]? = some o ∧ o.isCells = false)
  rw [hc] at ho
  injection ho with ho
  subst ho
  cases hn
section
variable {F : Fence} {nF : Nat} {P : Program} {ops : Array Oper} {rest : List Oper} {o : Oper} {a : Act} {Q : Exit → Act → World → Prop}
theorem append_row_in {w0 W : World} (k : IntKind) (base : Nat) (hgd : o.guard = none) (s x : Operand) (t e : TypeId) (bytes : Nat)
    (ho : o.op = .call { callee := .builtin .append, args := #[s, x], argTypes := #[t, t] })
    (ht : P.underlying t = some (.slice e)) (hinfo : (P.info? e).map (fun i => (i.zero, i.size, i.bytes)) = some (some (.int k 0), 1, bytes)) (hb0 : 0 < bytes)
    (v : Value) (xs ys : List Int) (A : Option Addr) (m c : Nat) (hs : a.eval s = v) (hx : a.eval x = .slice A m c)
    (HO : Lx k e W base v xs) (HR : (Kd.int k).C W A m ys) (HB : Below base w0 W) (hbase : base ≤ W.heap.size) (hl : (xs.length + m) * bytes ≤ 140737488355328)
    (h : ∀ v1 w1, Lx k e w1 base v1 (xs ++ ys) → Below base w0 w1 → W.grownBy w1 v.ownBlock → (v1.ownBlock = v.ownBlock ∨ ∃ b, v1.ownBlock = some b ∧ W.heap.size ≤ b) → wpListIn F nF P ops Q rest (a.put o.dst v1) w1) :
    wpListIn F nF P ops Q (o :: rest) a W := by
  obtain ⟨v1, w1, hr, hown, hg, hat⟩ := run_row (P := P) k base t o.type e bytes ht hinfo hb0 v xs ys A m c HO HR hbase hl
  refine wpListIn_plain hgd fun K hK => ?_
  unfold Oper.wpIn
  refine ⟨?_, ?_⟩
  · simp [Oper.about, ho, resolve, Target.leads, Sem.run_pure]
  · rw [Oper.semAt_plain F _ _ (by rw [ho]; intro c hc'; cases hc')]
    simp [execOp, ho, resolve, invoke, builtin, hs, hx, hr, Result.andThen]
    refine hK _ _ (h v1 w1 hown (HB.grown hg hbase (Lax.base_le HO)) hg ?_)
    rcases hat with hat | hat
    · exact .inl hat
    · exact .inr ⟨_, hat, Nat.le_refl _⟩
theorem append_one_in {w0 W : World} (k : IntKind) (base : Nat) (hgd : o.guard = none) (s x : Operand) (t e : TypeId) (bytes : Nat)
    (ho : o.op = .call { callee := .builtin .append, args := #[s, x], argTypes := #[t, t] })
    (ht : P.underlying t = some (.slice e)) (hinfo : (P.info? e).map (fun i => (i.zero, i.size, i.bytes)) = some (some (.int k 0), 1, bytes)) (hb0 : 0 < bytes)
    (v : Value) (xs : List Int) (y : Int) (gN : Nat) (hN : gN = W.heap.size) (hs : a.eval s = v) (hx : a.eval x = .slice (some ⟨gN, 0, none⟩) 1 1)
    (HO : Lx k e W base v xs) (HB : Below base w0 W) (hbase : base ≤ W.heap.size) (hl : (xs.length + 1) * bytes ≤ 140737488355328)
    (h : ∀ v1 w1, Lx k e w1 base v1 (xs ++ [y]) → Below base w0 w1 → W.grownBy w1 v.ownBlock → (v1.ownBlock = v.ownBlock ∨ ∃ b, v1.ownBlock = some b ∧ W.heap.size ≤ b) → wpListIn F nF P ops Q rest (a.put o.dst v1) w1) :
    wpListIn F nF P ops Q (o :: rest) a (W.alloc (.cells #[.int k y] e)) := by
  subst hN
  have hl0 : xs.length ≤ 9223372036854775807 := Lax.max HO
  refine append_row_in (w0 := w0) k base hgd s x t e bytes ho ht hinfo hb0 v xs [y] (some ⟨W.heap.size, 0, none⟩) 1 1 hs hx (HO.alloc _) ?_ (HB.alloc hbase _) (by simp; omega) hl ?_
  · refine ⟨rfl, by omega, fun _ => ⟨_, rfl, fun j p hj => ⟨[.int k p], rfl, rfl, fun i u hu => ?_⟩⟩⟩
    cases i with
    | succ i => simp at hu
    | zero =>
      cases j with
      | succ j => simp at hj
      | zero =>
        simp only [List.getElem?_cons_zero, Option.some.injEq] at hu hj
        subst hu; subst hj
        rw [add_plain]
        exact cell_of_row _ W.heap.size 0 #[.int k y] e (0, 0) (heap_alloc_new W _)
  · intro v1 w1 h1 h2 h3 h4
    refine h v1 w1 h1 h2 (World.grownBy.trans (World.grownBy_alloc W _ _) h3) ?_
    rcases h4 with h4 | ⟨b, h4, h5⟩
    · exact .inl h4
    · exact .inr ⟨b, h4, by simp at h5; omega⟩
end
end Lx
/-- A cut of a row that is read. -/
theorem C_cut {α : Type} {d : Kd α} {w : World} {ad : Addr} {n : Nat} {xs : List α} (h : d.C w (some ad) n xs) (lo m : Nat) (hm : lo + m ≤ n) : d.C w (some (ad.add (lo * d.sz))) m ((xs.drop lo).take m) := by
  obtain ⟨h1, h2, h3⟩ := h
  refine ⟨by rw [List.length_take, List.length_drop]; omega, by omega, fun hp => ?_⟩
  obtain ⟨ad', e, hc⟩ := h3 (by omega)
  injection e with e
  subst e
  refine ⟨_, rfl, fun j p hj => ?_⟩
  rw [List.getElem?_take] at hj
  split at hj
  · rw [List.getElem?_drop] at hj
    obtain ⟨c, g1, g2, g3⟩ := hc _ _ hj
    refine ⟨c, g1, g2, fun i u hu => ?_⟩
    have g4 := g3 i u hu
    rw [Nat.add_mul, Nat.add_assoc] at g4
    rw [Addr.add_add]
    exact g4
  · cases hj
theorem chunkOf_len {α : Type} (N : Nat) (l : List α) (j : Nat) : (chunkOf N l j).length = P.cutLen N l.length j := by
  unfold chunkOf P.cutLen
  rw [List.length_take, List.length_drop]
theorem C_chunk {α : Type} {d : Kd α} {w : World} {ad : Addr} {N : Nat} {xs : List α} (h : d.C w (some ad) xs.length xs) (j : Nat) (hj : j * N ≤ xs.length) : d.C w (some (ad.add (j * N * d.sz))) (chunkOf N xs j).length (chunkOf N xs j) := by
  have h1 := chunkOf_len N xs j
  have h2 := C_cut h (j * N) (P.cutLen N xs.length j) (by unfold P.cutLen; omega)
  have h3 : (xs.drop (j * N)).take (P.cutLen N xs.length j) = chunkOf N xs j := by
    unfold chunkOf P.cutLen
    rw [Nat.min_comm, ← List.length_drop, ← List.take_take]
    exact List.take_of_length_le (by rw [List.length_take]; omega)
  rw [h3] at h2
  rw [h1]
  exact h2
theorem chunkOf_pos {N n : Nat} {α : Type} {l : List α} (hN : 1 ≤ N) (hl : l.length = n) (j : Fin (P.cuts N n)) : j.1 * N < n ∧ 1 ≤ (chunkOf N l j.1).length ∧ (chunkOf N l j.1).length ≤ N := by
  have h1 : j.1 * N < n := by
    have := j.2
    unfold P.cuts at this
    rw [Nat.lt_iff_add_one_le, Nat.le_div_iff_mul_le (by omega), Nat.add_mul, Nat.one_mul] at this
    omega
  refine ⟨h1, ?_⟩
  rw [chunkOf_len, hl]
  unfold P.cutLen
  omega
end Go.Proofs.Ytimlgpfcgklddaa
