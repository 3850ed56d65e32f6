/-
Texts of this seat, laid together: D7.
-/
import Derived.Test.YtimlgpfcgklddaaXD3
/-
Walks over a list: where a walk stands; here, Doc, Freq, Iter.
-/
namespace Go.Proofs.Ytimlgpfcgklddaa
open Go.RowKit Go.Proofs.YtimlgpfcgklddaaW.PrintWords
/-- Where a walk stands: the posts at hand, the place among them, the block behind. -/
structure ISt where
  posts : List P.S58
  at' : Int
  nx : Nat
def ISt.here (s : ISt) : Prop := 0 ≤ s.at' ∧ s.at' < s.posts.length
instance (s : ISt) : Decidable s.here := by unfold ISt.here; infer_instance
structure BlkOk (p : Blk) : Prop where
  len : p.b.length ≤ 140737488355328
  range : ∀ x ∈ p.b, 0 ≤ x ∧ x < 256
  n1 : 1 ≤ p.n
  n2 : p.n ≤ 1048576
  ahead : -1 ≤ p.ahead ∧ p.ahead ≤ 4398046511104
  ok : (postsF p.b p.ahead p.last p.n).2 = true
/-- A list lies at block L. -/
structure Lst (w : World) (L base : Nat) (bl : List Blk) : Prop where
  v : ∃ vb n, w.heap[L]? = some (.cells #[vb, .int .i64 n] 93 (0, 0)) ∧ Bx w base vb bl
  ok : ∀ p ∈ bl, BlkOk p
  len : bl.length ≤ 16384
/-- A walk lies at block I, over the list at L. -/
structure Itr (w : World) (I base L : Nat) (bl : List Blk) (s : ISt) : Prop where
  v : ∃ vp, w.heap[I]? = some (.cells #[vp, .int .i64 s.at', .pointer (some ⟨L, 0, none⟩), .int .i64 (s.nx : Int)] 103 (0, 0)) ∧ Px w base vp s.posts
  l : Lst w L base bl
  at0 : -1 ≤ s.at' ∧ s.at' ≤ 1048576
  nx : s.nx ≤ 1073741824
  plen : s.posts.length ≤ 1048576
theorem Lst.below {w w' : World} {L base : Nat} {bl : List Blk} (h : Lst w L base bl) (hb : Below w.heap.size w w') : Lst w' L base bl := by
  obtain ⟨vb, n, h1, h2⟩ := h.v
  exact ⟨⟨vb, n, blk_below h1 hb, h2.below hb⟩, h.ok, h.len⟩
theorem Itr.below {w w' : World} {I L base : Nat} {bl : List Blk} {s : ISt} (h : Itr w I base L bl s) (hb : Below w.heap.size w w') : Itr w' I base L bl s := by
  obtain ⟨vp, h1, h2⟩ := h.v
  exact ⟨⟨vp, blk_below h1 hb, h2.below hb⟩, h.l.below hb, h.at0, h.nx, h.plen⟩
theorem Itr.lt {w : World} {I L base : Nat} {bl : List Blk} {s : ISt} (h : Itr w I base L bl s) : I < w.heap.size := by
  obtain ⟨vp, h1, h2⟩ := h.v
  exact blk_lt h1
theorem Lst.keep {w w' : World} {L base I : Nat} {bl : List Blk} {cells : Array Value} (h : Lst w L base bl) (hI : w.heap[I]? = some (.cells cells 103 (0, 0))) (hg : w.grownBy w' (some I)) : Lst w' L base bl := by
  obtain ⟨vb, n, h1, h2⟩ := h.v
  refine ⟨⟨vb, n, blk_grown h1 hg (fun e => by injection e with e; subst e; exact block_ne h1 hI (by decide)), h2.grown hg fun k e => by injection e with e; subst e; exact ⟨_, _, hI, by decide, by decide⟩⟩, h.ok, h.len⟩
/-- Another walk, where one is moved. -/
theorem Itr.other {w w' : World} {I J L base : Nat} {bl : List Blk} {s : ISt} {cells : Array Value} (h : Itr w I base L bl s) (hI : w.heap[J]? = some (.cells cells 103 (0, 0))) (hne : I ≠ J) (hg : w.grownBy w' (some J)) : Itr w' I base L bl s := by
  obtain ⟨vp, h1, h2⟩ := h.v
  exact ⟨⟨vp, blk_grown h1 hg (fun e => by injection e with e; exact hne e), h2.grown hg (fun k c e hk => by injection e with e; subst e; exact block_ne hI hk (by decide)) (fun k c e hk => by injection e with e; subst e; exact block_ne hI hk (by decide))⟩, h.l.keep hI hg, h.at0, h.nx, h.plen⟩
def ISt.post (s : ISt) : P.S58 := s.posts.getD s.at'.toNat P.z58
def docF (s : ISt) : Int := if s.here then s.post.f0 else if s.at' < 0 then -1 else 16384
def freqF (s : ISt) : Int := if s.here then (s.post.f1.length : Int) else 0
end Go.Proofs.Ytimlgpfcgklddaa
namespace Go.Proofs.Ytimlgpfcgklddaa.P
open Go.RowKit Go.Shelf Go.Proofs.YtimlgpfcgklddaaW.PrintWords Go.Proofs.YtimlgpfcgklddaaW.PrintLast Go.Proofs.YtimlgpfcgklddaaW.PrintMore
set_option linter.unusedVariables false
set_option linter.unusedSimpArgs false
theorem Iter_calls (L base : Nat) (bl : List Blk) (w : World) (h : Lst w L base bl) (hb : base ≤ w.heap.size) :
    Calls Try.prog 17 #[.pointer (some ⟨L, 0, none⟩)] w fun e w' => e = .returned (.pointer (some ⟨w.heap.size, 0, none⟩)) ∧ Itr w' w.heap.size base L bl ⟨[], -1, 0⟩ ∧ Below w.heap.size w w' := by
  have HL := Aside0.mk h
  clear h
  go_enter Try.func17, Try.ntmps17
  go_wp2
  go_ret
  exact ⟨rfl, ⟨⟨_, blk_new w _, Px.nil _ _⟩, HL.out.below (below_alloc (Below.refl _ _) _), by decide, by decide, by decide⟩, below_alloc (Below.refl _ _) _⟩
set_option maxHeartbeats 1000000 in
theorem here_calls (I base L : Nat) (bl : List Blk) (s : ISt) (w : World) (h : Itr w I base L bl s) :
    Calls Try.prog 57 #[.pointer (some ⟨I, 0, none⟩)] w fun e w' => e = .returned (.bool (decide s.here)) ∧ Drawn0 w w' := by
  obtain ⟨vp, h1, h2⟩ := h.v
  obtain ⟨A, c, rfl, hc, hC⟩ := h2.reads
  have hm := Kd.C_max hC
  have hc0 := blk_cell h1 0
  have hc1 := blk_cell h1 1
  obtain ⟨posts, at_, nx⟩ := s
  dsimp only at hm hc hc0 hc1
  have HH : (⟨posts, at_, nx⟩ : ISt).here ↔ 0 ≤ at_ ∧ at_ < posts.length := Iff.rfl
  have HX := Aside0.mk HH
  clear h h1 h2 hC HH
  by_cases ha : 0 ≤ at_
  · by_cases hb : at_ < posts.length
    · have hd : decide (⟨posts, at_, nx⟩ : ISt).here = true := decide_eq_true (HX.out.2 ⟨ha, hb⟩)
      rw [hd]
      clear hd
      go_enter Try.func57, Try.ntmps57
      go_wp2
      go_quiet (fail)
      go_wp2
      go_ret
      exact ⟨rfl, ⟨_, rfl⟩⟩
    · have hd : decide (⟨posts, at_, nx⟩ : ISt).here = false := decide_eq_false (fun e => hb (HX.out.1 e).2)
      rw [hd]
      clear hd
      have hbd : decide (at_ < (posts.length : Int)) = false := decide_eq_false hb
      clear hb
      go_enter Try.func57, Try.ntmps57
      go_wp2
      go_quiet (fail)
      go_wp2
      go_ret
      exact ⟨rfl, ⟨_, rfl⟩⟩
  · have hd : decide (⟨posts, at_, nx⟩ : ISt).here = false := decide_eq_false (fun e => ha (HX.out.1 e).1)
    rw [hd]
    clear hd
    have had : decide (0 ≤ at_) = false := decide_eq_false ha
    have had2 : decide (at_ ≥ 0) = false := decide_eq_false ha
    clear ha
    go_enter Try.func57, Try.ntmps57
    go_wp2
    go_quiet (fail)
    go_wp2
    go_ret
    exact ⟨rfl, ⟨_, rfl⟩⟩
end Go.Proofs.Ytimlgpfcgklddaa.P
