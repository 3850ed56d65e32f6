/-
Texts of this seat, laid together: A13, A14.
-/
import Derived.Test.YtimlgpfcgklddaaQF125
import Derived.Test.YtimlgpfcgklddaaQA11
import Derived.Test.YtimlgpfcgklddaaQA10
namespace Go.Proofs.Ytimlgpfcgklddaa
open Go.RowKit Go.Proofs.YtimlgpfcgklddaaW.PrintWords
/-- Two rows' blocks are not the same. -/
def Apart2 (u v : Value) : Prop := ∀ j, u.ownBlock = some j → some j ≠ v.ownBlock
theorem Apart2.symm {u v : Value} (h : Apart2 u v) : Apart2 v u := fun j hj e => h j e.symm (by rw [hj])
theorem Apart2.nil (v : Value) : Apart2 (.slice none 0 0) v := fun j hj => by simp [Value.ownBlock] at hj
/-- Behind an append to v. -/
theorem Apart2.after {u v v1 : Value} {N : Nat} (h : Apart2 u v) (hu : ∀ j, u.ownBlock = some j → j < N) (hat : v1.ownBlock = v.ownBlock ∨ ∃ b, v1.ownBlock = some b ∧ N ≤ b) : Apart2 u v1 := by
  intro j hj e
  rcases hat with h1 | ⟨b, h1, h2⟩
  · rw [h1] at e; exact h j hj e
  · rw [h1] at e; injection e with e; have := hu j hj; omega
theorem app3 {k : IntKind} {e : TypeId} {base : Nat} {W w1 : World} {u u1 v x : Value} {ys zs : List Int} (hv : Lx k e W base v ys) (hx : Lx k e W base x zs) (a : Apart2 u v) (b : Apart2 u x) (hg : W.grownBy w1 u.ownBlock) (hat : u1.ownBlock = u.ownBlock ∨ ∃ b, u1.ownBlock = some b ∧ W.heap.size ≤ b) :
    Lx k e w1 base v ys ∧ Lx k e w1 base x zs ∧ Apart2 u1 v ∧ Apart2 u1 x :=
  ⟨hv.grown hg a.symm, hx.grown hg b.symm, (a.symm.after (Lax.lt hv) hat).symm, (b.symm.after (Lax.lt hx) hat).symm⟩
namespace Lx
section
variable {P : Program} {ops : Array Oper} {rest : List Oper} {o : Oper} {a : Act} {Q : Exit → Act → World → Prop}
theorem append_oneN {w0 W : World} (k : IntKind) (base : Nat) (hgd : o.guard = none) (s x : Operand) (t e : TypeId) (bytes : Nat)
    (ho : o.op = .call { callee := .builtin .append, args := #[s, x], argTypes := #[t, t] })
    (ht : P.underlying t = some (.slice e)) (hinfo : (P.info? e).map (fun i => (i.zero, i.size, i.bytes)) = some (some (.int k 0), 1, bytes)) (hb0 : 0 < bytes)
    (v : Value) (xs : List Int) (y : Int) (gN : Nat) (hN : gN = W.heap.size) (hs : a.eval s = v) (hx : a.eval x = .slice (some ⟨gN, 0, none⟩) 1 1)
    (HO : Lx k e W base v xs) (HB : Below base w0 W) (hbase : base ≤ W.heap.size) (hl : (xs.length + 1) * bytes ≤ 140737488355328)
    (h : ∀ v1 w1, Lx k e w1 base v1 (xs ++ [y]) → Below base w0 w1 → W.grownBy w1 v.ownBlock → (v1.ownBlock = v.ownBlock ∨ ∃ b, v1.ownBlock = some b ∧ W.heap.size ≤ b) → wpList P ops Q rest (a.put o.dst v1) w1) :
    wpList P ops Q (o :: rest) a (W.alloc (.cells #[.int k y] e)) := by
  subst hN
  exact append_one k base hgd s x t e bytes ho ht hinfo hb0 v xs y hs hx HO HB hbase hl h
end
end Lx
structure BlockOk (l : List P.S58) (last : Int) : Prop where
  n : l.length ≤ 16384
  docs : ∀ p ∈ l, 0 ≤ p.f0 ∧ p.f0 < 16384
  last0 : -1 ≤ last
  last1 : last < 16384
  pos : ∀ p ∈ l, 1 ≤ p.f1.length ∧ ∀ x ∈ p.f1, 0 ≤ x ∧ x ≤ 1048576
  tot : (l.map fun p => p.f1.length).sum ≤ 1048576
def docsOf (last : Int) (l : List P.S58) : List Int := gaps last (l.map fun p => p.f0)
def freqsOf (l : List P.S58) : List Int := l.map fun p => (p.f1.length : Int) - 1
def placesOf (l : List P.S58) : List Int := l.flatMap fun p => diffs 0 p.f1
def rowsOf (last : Int) (l : List P.S58) : List Int := packPut (docsOf last l) ++ packPut (freqsOf l) ++ packPut (placesOf l)
end Go.Proofs.Ytimlgpfcgklddaa
namespace Go.Proofs.Ytimlgpfcgklddaa.P
theorem sum_mem_le {l : List Nat} : ∀ {x : Nat}, x ∈ l → x ≤ l.sum := by
  induction l with
  | nil => intro x h; cases h
  | cons y r ih =>
    intro x h
    rw [List.sum_cons]
    rcases List.mem_cons.1 h with rfl | h
    · omega
    · have := ih h; omega
theorem sum_take_le (l : List Nat) (k : Nat) : (l.take k).sum ≤ l.sum := by
  have h := congrArg List.sum (List.take_append_drop k l)
  rw [List.sum_append] at h
  omega
theorem places_len (l : List S58) : (placesOf l).length = (l.map fun p => p.f1.length).sum := by
  unfold placesOf
  rw [List.length_flatMap]
  congr 1
  apply List.map_congr_left
  intro p _
  exact diffs_length _ _
open Go.RowKit Go.Proofs.YtimlgpfcgklddaaW.PrintWords Go.Proofs.YtimlgpfcgklddaaW.PrintLast Go.Proofs.YtimlgpfcgklddaaW.PrintMore
set_option linter.unusedVariables false
set_option linter.unusedSimpArgs false
theorem packPut_len (l : List Int) (h : ∀ x ∈ l, -9223372036854775808 ≤ x ∧ x ≤ 9223372036854775807) : (packPut l).length ≤ 1200 * ((l.length + 127) / 128) := by
  have h1 := outOf_len l h (List.finRange (cuts 128 l.length))
  rw [outOf_all, List.length_finRange] at h1
  exact h1
/-- A literal of three slices of bytes. -/
theorem C_lit3 {W : World} {A1 A2 A3 : Option Addr} {c1 c2 c3 : Nat} {xs ys zs : List Int} (h1 : (Kd.int .u8).C W A1 xs.length xs) (l1 : xs.length ≤ c1) (h2 : (Kd.int .u8).C W A2 ys.length ys) (l2 : ys.length ≤ c2) (h3 : (Kd.int .u8).C W A3 zs.length zs) (l3 : zs.length ≤ c3) (t : TypeId) :
    (Kd.slice 5 (Kd.int .u8)).C (W.alloc (.cells #[.slice A1 xs.length c1, .slice A2 ys.length c2, .slice A3 zs.length c3] t)) (some ⟨W.heap.size, 0, none⟩) [xs, ys, zs].length [xs, ys, zs] := by
  refine ⟨rfl, by simp, fun _ => ⟨_, rfl, fun j q hj => ?_⟩⟩
  have hb := blk_new W (.cells #[.slice A1 xs.length c1, .slice A2 ys.length c2, .slice A3 zs.length c3] t)
  match j, hj with
  | 0, hj =>
    cases hj
    refine ⟨[.slice A1 xs.length c1], rfl, ⟨_, _, rfl, l1, Kd.C_alloc h1 _⟩, fun i u hu => ?_⟩
    cases i with
    | succ i => simp at hu
    | zero => cases hu; rw [add_plain]; exact blk_cell hb 0
  | 1, hj =>
    cases hj
    refine ⟨[.slice A2 ys.length c2], rfl, ⟨_, _, rfl, l2, Kd.C_alloc h2 _⟩, fun i u hu => ?_⟩
    cases i with
    | succ i => simp at hu
    | zero => cases hu; rw [add_plain]; exact blk_cell hb 1
  | 2, hj =>
    cases hj
    refine ⟨[.slice A3 zs.length c3], rfl, ⟨_, _, rfl, l3, Kd.C_alloc h3 _⟩, fun i u hu => ?_⟩
    cases i with
    | succ i => simp at hu
    | zero => cases hu; rw [add_plain]; exact blk_cell hb 2
  | j + 3, hj => simp at hj
set_option maxRecDepth 100000 in
set_option maxHeartbeats 4000000 in
theorem rows_calls (A : Option Addr) (l : List S58) (c : Nat) (last : Int) (w : World) (h : Kd.C k58 w A l.length l) (hc : l.length ≤ c) (ok : BlockOk l last) :
    Calls Try.prog 44 #[.slice A l.length c, .int .i64 last] w fun e w' => ∃ v, e = .returned v ∧ Lx .u8 5 w' w.heap.size v (rowsOf last l) ∧ Below w.heap.size w w' := by
  have H := Aside0.mk h
  have HOK := Aside0.mk ok
  have HM := Kd.C_max h
  clear h ok
  go_enter Try.func44, Try.ntmps44
  go_wp2
  go_loopg [1, 5, 6, 7, 15] l.length (fun kq v1 v5 v6 v7 v15 w' => ∃ k : Nat, v15 = .int .i64 k ∧ Aside0 (k ≤ l.length) ∧ v1 = .int .i64 (lastOf last ((l.take k).map fun p => p.f0)) ∧ Aside0 (Lx .i64 2 w' w.heap.size v5 (docsOf last (l.take k))) ∧ Aside0 (Lx .i64 2 w' w.heap.size v6 (freqsOf (l.take k))) ∧ Aside0 (Lx .i64 2 w' w.heap.size v7 (placesOf (l.take k))) ∧ Aside0 (Apart2 v5 v6 ∧ Apart2 v5 v7 ∧ Apart2 v6 v7) ∧ Aside0 (Below w.heap.size w w') ∧ Aside0 (l.length - k ≤ kq))
  case atStart => exact ⟨0, rfl, ⟨Nat.zero_le _⟩, rfl, ⟨Lx.nil _ _ _ _⟩, ⟨Lx.nil _ _ _ _⟩, ⟨Lx.nil _ _ _ _⟩, ⟨Apart2.nil _, Apart2.nil _, Apart2.nil _⟩, ⟨Below.refl _ _⟩, ⟨Nat.le_refl _⟩⟩
  case round =>
    obtain ⟨k, rfl, hk, rfl, HD, HF, HP, HAp, HB, HK⟩ := hrel
    by_cases hlt : k < l.length
    · obtain ⟨ad, A1, c1, rfl, hx0, hx1, hl1, hC1⟩ := at_T58 H.out (k : Int) (by omega) (by omega)
      rw [Int.toNat_natCast] at hx0 hx1
      replace hx0 := pw_cell_below HB.out hx0
      replace hx1 := pw_cell_below HB.out hx1
      have hmem : rd_T58 l k ∈ l := by
        unfold rd_T58
        rw [Int.toNat_natCast, List.getD_eq_getElem?_getD, List.getElem?_eq_getElem hlt]
        exact List.getElem_mem hlt
      have htk : l.take (k + 1) = l.take k ++ [rd_T58 l k] := by
        rw [List.take_succ_eq_append_getElem hlt]
        unfold rd_T58
        rw [Int.toNat_natCast, List.getD_eq_getElem?_getD, List.getElem?_eq_getElem hlt]
        rfl
      have HTK := Aside0.mk htk
      have HME := Aside0.mk hmem
      have HC1 := Aside0.mk hC1
      clear hC1 htk hmem
      obtain ⟨p, hp⟩ : ∃ p, rd_T58 l k = p := ⟨_, rfl⟩
      rw [hp] at hx0 hx1 hl1 HTK HME HC1
      clear hp
      obtain ⟨la, hla⟩ : ∃ la, lastOf last ((l.take k).map fun p => p.f0) = la := ⟨_, rfl⟩
      have hlr : -1 ≤ la ∧ la ≤ 16383 := by
        rw [← hla]
        exact lastOf_range _ (-1) 16383 (fun x hx => by
          obtain ⟨q, hq, rfl⟩ := List.mem_map.1 hx
          have := HOK.out.docs q (List.mem_of_mem_take hq)
          omega) last HOK.out.last0 (by have := HOK.out.last1; omega)
      rw [hla]
      have HLA := Aside0.mk hla
      clear hla
      obtain ⟨hla0, hla1⟩ := hlr
      obtain ⟨hd0, hd1⟩ := HOK.out.docs p HME.out
      have hpl : p.f1.length ≤ 1048576 := by
        have h1 := HOK.out.tot
        have h2 : p.f1.length ≤ (l.map fun p => p.f1.length).sum := sum_mem_le (List.mem_map.2 ⟨p, HME.out, rfl⟩)
        omega
      have hpl1 : 1 ≤ p.f1.length := (HOK.out.pos p HME.out).1
      have HLD : Aside0 ((docsOf last (l.take k)).length ≤ 16384) := ⟨by unfold docsOf; rw [gaps_length, List.length_map, List.length_take]; have := HOK.out.n; omega⟩
      have HLF : Aside0 ((freqsOf (l.take k)).length ≤ 16384) := ⟨by unfold freqsOf; rw [List.length_map, List.length_take]; have := HOK.out.n; omega⟩
      have HPT := Aside0.mk (show (placesOf (l.take k)).length + p.f1.length ≤ 1048576 by
        have h1 := places_len (l.take (k + 1))
        have h2 := HOK.out.tot
        have h3 : ((l.take (k + 1)).map fun p => p.f1.length).sum ≤ (l.map fun p => p.f1.length).sum := by rw [List.map_take]; exact sum_take_le _ _
        rw [HTK.out] at h1 h3
        unfold placesOf at h1 ⊢
        rw [List.flatMap_append, List.length_append] at h1
        simp only [List.flatMap_cons, List.flatMap_nil, List.append_nil, diffs_length] at h1
        omega)
      obtain ⟨ds, hds⟩ : ∃ ds, docsOf last (l.take k) = ds := ⟨_, rfl⟩
      obtain ⟨fs, hfs⟩ : ∃ fs, freqsOf (l.take k) = fs := ⟨_, rfl⟩
      obtain ⟨ps, hps⟩ : ∃ ps, placesOf (l.take k) = ps := ⟨_, rfl⟩
      rw [hds] at HD HLD
      rw [hfs] at HF HLF
      rw [hps] at HP HPT
      have HDS := Aside0.mk hds
      have HFS := Aside0.mk hfs
      have HPS := Aside0.mk hps
      clear hds hfs hps
      go_wp2_with (first | ((with_reducible refine gate_builtin (b := .append) (xs := #[.tmp 19, .tmp 25]) rfl ?_); at_builtin; refine Lx.append_oneN (w0 := w) .i64 w.heap.size rfl (.tmp 19) (.tmp 25) 85 2 8 rfl Try.underlying85 info2 (by decide) u5 ds (p.f0 - la - 1) (wr.heap.size + 1) ?aN rfl rfl ?aO ?aB ?aS ?aL ?_; (case aN => simp); (case aO => exact Lx.alloc HD.out _); (case aB => exact HB.out.alloc HB.out.size _); (case aS => have := HB.out.size; simp; omega); (case aL => have := HLD.out; omega); intro v5 w1 ho hb hg hat; have hh := app3 (Lx.alloc HF.out _) (Lx.alloc HP.out _) HAp.out.1 HAp.out.2.1 hg hat; have hbx := (hg.block wr.heap.size (by simp) (fun e => by have := Lax.lt HD.out wr.heap.size e.symm; omega)).trans (blk_new wr (.cells #[.int .i64 p.f0, .slice A1 p.f1.length c1] 58)); have hcx0 := blk_cell hbx 0; have hcx1 := blk_cell hbx 1; have HBX := Aside0.mk hbx; have HD1 := Aside0.mk ho; have HF1 := Aside0.mk hh.1; have HP1 := Aside0.mk hh.2.1; have HA1 := Aside0.mk hh.2.2; have HB1 := Aside0.mk hb; clear ho hb hg hat hh hbx) | ((with_reducible refine gate_builtin (b := .append) (xs := #[.tmp 29, .tmp 34]) rfl ?_); at_builtin; refine Lx.append_one (w0 := w) .i64 w.heap.size rfl (.tmp 29) (.tmp 34) 85 2 8 rfl Try.underlying85 info2 (by decide) u6 fs ((p.f1.length : Int) - 1) rfl rfl ?aO ?aB ?aS ?aL ?_; (case aO => exact HF1.out); (case aB => exact HB1.out); (case aS => exact below_size HB1.out); (case aL => have := HLF.out; omega); intro v6 w2 ho hb hg hat; have hh := app3 HD1.out HP1.out HA1.out.1.symm HAp.out.2.2 hg hat; have hbx := (hg.block wr.heap.size (blk_lt HBX.out) (fun e => by have := Lax.lt HF.out wr.heap.size e.symm; omega)).trans HBX.out; have hcy0 := blk_cell hbx 0; have hcy1 := blk_cell hbx 1; clear hcx0 hcx1; have HF2 := Aside0.mk ho; have HD2 := Aside0.mk hh.1; have HP2 := Aside0.mk hh.2.1; have HA2 := Aside0.mk (show Apart2 v5 v6 ∧ Apart2 v5 u7 ∧ Apart2 v6 u7 from ⟨hh.2.2.1.symm, HA1.out.2, hh.2.2.2⟩); have HB2 := Aside0.mk hb; clear ho hb hg hat hh hbx))
      clear hx0 hx1 hcy0 hcy1
      go_loopg [7, 10, 39] p.f1.length (fun kq v7 v10 v39 w' => ∃ (j : Nat), v39 = .int .i64 j ∧ Aside0 (j ≤ p.f1.length) ∧ v10 = .int .i64 (lastOf 0 (p.f1.take j)) ∧ Aside0 (Lx .i64 2 w' w.heap.size v7 (ps ++ diffs 0 (p.f1.take j))) ∧ Aside0 (Lx .i64 2 w' w.heap.size v5 (ds ++ [p.f0 - la - 1])) ∧ Aside0 (Lx .i64 2 w' w.heap.size v6 (fs ++ [(p.f1.length : Int) - 1])) ∧ Aside0 (Apart2 v5 v6 ∧ Apart2 v5 v7 ∧ Apart2 v6 v7) ∧ Aside0 (Below w.heap.size w w') ∧ Aside0 (p.f1.length - j ≤ kq))
      case atStart => exact ⟨0, rfl, ⟨Nat.zero_le _⟩, rfl, by simpa [diffs] using HP2, HD2, HF2, HA2, HB2, ⟨Nat.le_refl _⟩⟩
      case round =>
        clear HD1 HF1 HP1 HA1 HB1 HD2 HF2 HP2 HA2 HB2 HBX HD HF HP HAp HB
        obtain ⟨j, rfl, hj, rfl, HP3, HD3, HF3, HA3, HB3, HJ⟩ := hrel
        by_cases hjl : j < p.f1.length
        · obtain ⟨ad1, rfl, hxn⟩ := Kd.at_int (Kd.C_below HC1.out HB3.out) (j : Int) (by omega) (by omega)
          rw [Int.toNat_natCast] at hxn
          have HT := Aside0.mk (take_rd p.f1 j hjl)
          have hnr : 0 ≤ rd p.f1 j ∧ rd p.f1 j ≤ 1048576 := (HOK.out.pos p HME.out).2 _ (by
            unfold rd
            rw [Int.toNat_natCast, List.getD_eq_getElem?_getD, List.getElem?_eq_getElem hjl]
            exact List.getElem_mem hjl)
          have HN := Aside0.mk (show rd p.f1 j = p.f1.getD j 0 from by unfold rd; rw [Int.toNat_natCast])
          obtain ⟨n, hn⟩ : ∃ n, rd p.f1 j = n := ⟨_, rfl⟩
          rw [hn] at hxn hnr HN
          clear hn
          obtain ⟨hn0, hn1⟩ := hnr
          have hat : 0 ≤ lastOf 0 (p.f1.take j) ∧ lastOf 0 (p.f1.take j) ≤ 1048576 := lastOf_range _ 0 1048576 (fun x hx => (HOK.out.pos p HME.out).2 x (List.mem_of_mem_take hx)) 0 (by omega) (by omega)
          have HDS3 := Aside0.mk (diffs_snoc (p.f1.take j) 0 n)
          have HLS := Aside0.mk (lastOf_snoc (p.f1.take j) 0 n)
          obtain ⟨at_, hate⟩ : ∃ a, lastOf 0 (p.f1.take j) = a := ⟨_, rfl⟩
          rw [hate] at hat HDS3 ⊢
          clear hate
          obtain ⟨hat0, hat1⟩ := hat
          have HPL : Aside0 ((ps ++ diffs 0 (p.f1.take j)).length ≤ 1048576) := ⟨by rw [List.length_append, diffs_length, List.length_take]; have := HPT.out; omega⟩
          obtain ⟨pd, hpd⟩ : ∃ pd, diffs 0 (p.f1.take j) = pd := ⟨_, rfl⟩
          rw [hpd] at HP3 HDS3 HPL
          clear hpd
          go_wp2_with (first | ((with_reducible refine gate_builtin (b := .append) (xs := #[.tmp 43, .tmp 47]) rfl ?_); at_builtin; refine Lx.append_one (w0 := w) .i64 w.heap.size rfl (.tmp 43) (.tmp 47) 85 2 8 rfl Try.underlying85 info2 (by decide) u7 (ps ++ pd) (n - at_) rfl rfl ?aO ?aB ?aS ?aL ?_; (case aO => exact HP3.out); (case aB => exact HB3.out); (case aS => exact below_size HB3.out); (case aL => have := HPL.out; omega); intro v7 w3 ho hb hg hat; have hh := app3 HD3.out HF3.out HA3.out.2.1.symm HA3.out.2.2.symm hg hat; have HP4 := Aside0.mk ho; have HD4 := Aside0.mk hh.1; have HF4 := Aside0.mk hh.2.1; have HA4 := Aside0.mk (show Apart2 v5 v6 ∧ Apart2 v5 v7 ∧ Apart2 v6 v7 from ⟨HA3.out.1, hh.2.2.1.symm, hh.2.2.2.symm⟩); have HB4 := Aside0.mk hb; clear ho hb hg hat hh))
          go_roundg (p.f1.length - (j + 1))
          case measure => have := HJ.out; omega
          case rel => exact ⟨j + 1, by first | rfl | (simp; done), ⟨hjl⟩, by rw [HT.out, ← HN.out, HLS.out], ⟨by rw [HT.out, ← HN.out, HDS3.out, ← List.append_assoc]; exact HP4.out⟩, HD4, HF4, HA4, HB4, ⟨Nat.le_refl _⟩⟩
        · have e : j = p.f1.length := by have := hj.out; omega
          have hge : p.f1.length ≤ j := by omega
          have HP5 : Aside0 (Lx .i64 2 wr w.heap.size u7 (placesOf (l.take (k + 1)))) := ⟨by
            have := HP3.out
            rw [e, List.take_length] at this
            rw [HTK.out]
            unfold placesOf
            rw [List.flatMap_append]
            have h1 := HPS.out
            unfold placesOf at h1
            rw [h1]
            simpa using this⟩
          have HD5 : Aside0 (Lx .i64 2 wr w.heap.size v5 (docsOf last (l.take (k + 1)))) := ⟨by
            rw [HTK.out]
            unfold docsOf
            rw [List.map_append, List.map_cons, List.map_nil, gaps_snoc, HLA.out]
            have h1 := HDS.out
            unfold docsOf at h1
            rw [h1]
            exact HD3.out⟩
          have HF5 : Aside0 (Lx .i64 2 wr w.heap.size v6 (freqsOf (l.take (k + 1)))) := ⟨by
            rw [HTK.out]
            unfold freqsOf
            rw [List.map_append, List.map_cons, List.map_nil]
            have h1 := HFS.out
            unfold freqsOf at h1
            rw [h1]
            exact HF3.out⟩
          clear hjl e
          go_wp2
          go_roundg (l.length - (k + 1))
          case measure => have := HK.out; omega
          case rel => exact ⟨k + 1, by first | rfl | (simp; done), ⟨hlt⟩, by rw [HTK.out, List.map_append, List.map_cons, List.map_nil, lastOf_snoc], HD5, HF5, HP5, HA3, HB3, ⟨Nat.le_refl _⟩⟩
    · have e : k = l.length := by have := hk.out; omega
      have hge : l.length ≤ k := by omega
      rw [e, List.take_length] at HD HF HP
      clear hlt e
      have HDl : Aside0 ((docsOf last l).length ≤ 16384 ∧ ∀ x ∈ docsOf last l, -9223372036854775808 ≤ x ∧ x ≤ 9223372036854775807) := ⟨by unfold docsOf; rw [gaps_length, List.length_map]; exact HOK.out.n, fun x hx => by
        have := gaps_range (l.map fun p => p.f0) (-1) 16383 (fun y hy => by
          obtain ⟨q, hq, rfl⟩ := List.mem_map.1 hy
          have := HOK.out.docs q hq
          omega) last HOK.out.last0 (by have := HOK.out.last1; omega) x hx
        omega⟩
      have HFl : Aside0 ((freqsOf l).length ≤ 16384 ∧ ∀ x ∈ freqsOf l, -9223372036854775808 ≤ x ∧ x ≤ 9223372036854775807) := ⟨by unfold freqsOf; rw [List.length_map]; exact HOK.out.n, fun x hx => by
        obtain ⟨q, hq, rfl⟩ := List.mem_map.1 hx
        have h1 := HOK.out.tot
        have h2 : q.f1.length ≤ (l.map fun p => p.f1.length).sum := sum_mem_le (List.mem_map.2 ⟨q, hq, rfl⟩)
        omega⟩
      have HPl : Aside0 ((placesOf l).length ≤ 1048576 ∧ ∀ x ∈ placesOf l, -9223372036854775808 ≤ x ∧ x ≤ 9223372036854775807) := ⟨by rw [places_len]; exact HOK.out.tot, fun x hx => by
        obtain ⟨q, hq, hx⟩ := List.mem_flatMap.1 hx
        have := diffs_range q.f1 0 1048576 (HOK.out.pos q hq).2 0 (by omega) (by omega) x hx
        omega⟩
      obtain ⟨ds, hds⟩ : ∃ ds, docsOf last l = ds := ⟨_, rfl⟩
      obtain ⟨fs, hfs⟩ : ∃ fs, freqsOf l = fs := ⟨_, rfl⟩
      obtain ⟨ps, hps⟩ : ∃ ps, placesOf l = ps := ⟨_, rfl⟩
      rw [hds] at HD HDl
      rw [hfs] at HF HFl
      rw [hps] at HP HPl
      have HR := Aside0.mk (show rowsOf last l = packPut ds ++ packPut fs ++ packPut ps by unfold rowsOf; rw [hds, hfs, hps])
      clear hds hfs hps
      obtain ⟨A5, c5, rfl, hc5, hC5⟩ := HD.out.reads
      obtain ⟨A6, c6, rfl, hc6, hC6⟩ := HF.out.reads
      obtain ⟨A7, c7, rfl, hc7, hC7⟩ := HP.out.reads
      have HC5 := Aside0.mk hC5
      have HC6 := Aside0.mk hC6
      have HC7 := Aside0.mk hC7
      clear hC5 hC6 hC7 HD HF HP
      have HLp : Aside0 ((packPut ds).length ≤ 200000 ∧ (packPut fs).length ≤ 200000 ∧ (packPut ps).length ≤ 12000000) := ⟨by
        have h1 := packPut_len ds HDl.out.2
        have h2 := packPut_len fs HFl.out.2
        have h3 := packPut_len ps HPl.out.2
        have h4 := HDl.out.1
        have h5 := HFl.out.1
        have h6 := HPl.out.1
        omega⟩
      go_wp2_with fail
      refine (Put_calls A5 ds c5 _ HC5.out hc5 (by have := HDl.out.1; omega) HDl.out.2).mono ?_
      rintro e w1 ⟨v1, rfl, ho1, hb1⟩
      have HO1 := Aside0.mk (Lx.lower ho1 HB.out.size)
      have HB1 := Aside0.mk hb1
      clear ho1 hb1
      go_wp2_with fail
      refine (Put_calls A6 fs c6 _ (Kd.C_below HC6.out HB1.out) hc6 (by have := HFl.out.1; omega) HFl.out.2).mono ?_
      rintro e w2 ⟨v2, rfl, ho2, hb2⟩
      have HO2 := Aside0.mk (Lx.lower ho2 (Nat.le_trans HB.out.size HB1.out.size))
      have HB2 := Aside0.mk hb2
      have HO1' := Aside0.mk (Lx.below HO1.out hb2)
      clear ho2 hb2
      go_wp2_with fail
      refine (Put_calls A7 ps c7 _ (Kd.C_below (Kd.C_below HC7.out HB1.out) HB2.out) hc7 HPl.out.1 HPl.out.2).mono ?_
      rintro e w3 ⟨v3, rfl, ho3, hb3⟩
      have HO3 := Aside0.mk ho3
      have HB3 := Aside0.mk hb3
      have HO1'' := Aside0.mk (Lx.below HO1'.out hb3)
      have HO2' := Aside0.mk (Lx.below HO2.out hb3)
      clear ho3 hb3 HO1 HO1' HO2
      obtain ⟨x1, hx1⟩ : ∃ x, packPut ds = x := ⟨_, rfl⟩
      obtain ⟨x2, hx2⟩ : ∃ x, packPut fs = x := ⟨_, rfl⟩
      obtain ⟨x3, hx3⟩ : ∃ x, packPut ps = x := ⟨_, rfl⟩
      rw [hx1] at HO1'' HR HLp
      rw [hx2] at HO2' HR HLp
      rw [hx3] at HO3 HR HLp
      clear hx1 hx2 hx3
      obtain ⟨B1, d1, rfl, hd1, hE1⟩ := HO1''.out.reads
      obtain ⟨B2, d2, rfl, hd2, hE2⟩ := HO2'.out.reads
      obtain ⟨B3, d3, rfl, hd3, hE3⟩ := HO3.out.reads
      have HLIT := Aside0.mk (C_lit3 hE1 hd1 hE2 hd2 hE3 hd3 25)
      clear hE1 hE2 hE3
      go_wp2_with fail
      refine (Concat_calls _ [x1, x2, x3] 3 _ HLIT.out (Nat.le_refl _) (by have := HLp.out; simp [lenSum]; omega)).mono ?_
      rintro e w4 ⟨v4, rfl, ho4, hb4⟩
      have HO4 := Aside0.mk ho4
      have HB4 := Aside0.mk hb4
      clear ho4 hb4
      go_wp2
      go_ret
      have hB3 : Below w.heap.size w w3 := ((HB.out.trans (HB1.out.mono HB.out.size)).trans (HB2.out.mono (Nat.le_trans HB.out.size HB1.out.size))).trans (HB3.out.mono (Nat.le_trans (Nat.le_trans HB.out.size HB1.out.size) HB2.out.size))
      have hBa := hB3.alloc hB3.size (.cells #[.slice B1 x1.length d1, .slice B2 x2.length d2, .slice B3 x3.length d3] 25)
      refine ⟨_, rfl, ?_, hBa.trans (HB4.out.mono hBa.size)⟩
      rw [HR.out]
      have := Lx.lower HO4.out hBa.size
      simpa using this
end Go.Proofs.Ytimlgpfcgklddaa.P
namespace Go.Proofs.Ytimlgpfcgklddaa
open Go.RowKit Go.Proofs.YtimlgpfcgklddaaW.PrintWords
/-- None is below the one ahead (of the first i + 1). -/
def sortedTo (l : List Int) (i : Nat) : Bool := (List.range i).all fun j => decide (l.getD j 0 ≤ l.getD (j + 1) 0)
def sortedB (l : List Int) : Bool := sortedTo l (l.length - 1)
theorem sortedTo_succ (l : List Int) (i : Nat) : sortedTo l (i + 1) = (decide (l.getD i 0 ≤ l.getD (i + 1) 0) && sortedTo l i) := by
  unfold sortedTo
  rw [List.range_succ, List.all_append]
  simp [Bool.and_comm]
def postB (last all : Int) (p : P.S58) : Bool := decide (last < p.f0) && decide (p.f0 < 16384) && decide (1 ≤ p.f1.length) && decide (all + p.f1.length ≤ 1048576) && sortedB p.f1 && decide (0 ≤ p.f1.getD 0 0) && decide (p.f1.getD (p.f1.length - 1) 0 ≤ 1048576)
def rightB (last all : Int) : List P.S58 → Bool
  | [] => true
  | p :: r => postB last all p && rightB p.f0 (all + p.f1.length) r
namespace P
theorem less_f (a b : Int) : cmp_Less_int.f a b = some (decide (a < b)) := by
  unfold cmp_Less_int.f cmp_isNaN_int.f
  simp
theorem sorted_l0 (l : List Int) (hl : l.length ≤ 140737488355328) (i : Nat) : ∀ k : Nat, i < k → i < l.length ∨ i = 0 → slices_IsSorted_int_int.l0 k l (i : Int) = some (sortedTo l i) := by
  induction i with
  | zero =>
    intro k hk _
    obtain ⟨k, rfl⟩ : ∃ m, k = m + 1 := ⟨k - 1, by omega⟩
    simp only [slices_IsSorted_int_int.l0]
    rw [if_neg (by omega)]
    rfl
  | succ i ih =>
    intro k hk hi
    obtain ⟨k, rfl⟩ : ∃ m, k = m + 1 := ⟨k - 1, by omega⟩
    have hw : wrap64 (((i + 1 : Nat) : Int) - 1) = (i : Int) := by unfold wrap64; omega
    simp only [slices_IsSorted_int_int.l0]
    rw [if_pos (by omega), if_pos (by omega), if_pos (by omega), hw, if_pos (by omega), if_pos (by omega), less_f]
    simp only [Option.bind_some]
    rw [sortedTo_succ]
    unfold rd
    rw [Int.toNat_natCast, Int.toNat_natCast]
    by_cases h : l.getD (i + 1) 0 < l.getD i 0
    · rw [if_pos (by simpa using h)]
      have : decide (l.getD i 0 ≤ l.getD (i + 1) 0) = false := by simpa using h
      rw [this]; rfl
    · rw [if_neg (by simpa using h), ih k (by omega) (by omega)]
      have : decide (l.getD i 0 ≤ l.getD (i + 1) 0) = true := by simpa using h
      rw [this]; rfl
theorem sorted_f (l : List Int) (hl : l.length ≤ 140737488355328) (k : Nat) (hk : l.length < k) : slices_IsSorted_int_int.f k l = some (sortedB l) := by
  unfold slices_IsSorted_int_int.f sortedB
  rcases Nat.eq_zero_or_pos l.length with h0 | h0
  · obtain ⟨k, rfl⟩ : ∃ m, k = m + 1 := ⟨k - 1, by omega⟩
    have hw : wrap64 ((l.length : Int) - 1) = -1 := by unfold wrap64; omega
    rw [hw, h0]
    simp only [slices_IsSorted_int_int.l0]
    rw [if_neg (by omega)]
    rfl
  · have hw : wrap64 ((l.length : Int) - 1) = ((l.length - 1 : Nat) : Int) := by unfold wrap64; omega
    rw [hw, sorted_l0 l hl (l.length - 1) k (by omega) (by omega)]
theorem right_l0 (l : List S58) (M : Nat) (hl : ∀ p ∈ l, p.f1.length ≤ M) (hM : M ≤ 140737488355328) (hn : l.length ≤ 140737488355328) (d : Nat) : ∀ (i k : Nat) (last all : Int), l.length - i = d → i ≤ l.length → d + M + 1 < k → 0 ≤ all → all ≤ 1048576 →
    postings_right.l0 k last all l (l.length : Int) (i : Int) = some (rightB last all (l.drop i)) := by
  induction d with
  | zero =>
    intro i k last all hd hi hk h0 h1
    obtain ⟨k, rfl⟩ : ∃ m, k = m + 1 := ⟨k - 1, by omega⟩
    simp only [postings_right.l0]
    rw [if_neg (by omega), List.drop_of_length_le (by omega)]
    rfl
  | succ d ih =>
    intro i k last all hd hi hk h0 h1
    obtain ⟨k, rfl⟩ : ∃ m, k = m + 1 := ⟨k - 1, by omega⟩
    have hlt : i < l.length := by omega
    have hrd : rd_T58 l (i : Int) = l[i] := by
      unfold rd_T58
      rw [Int.toNat_natCast, List.getD_eq_getElem?_getD, List.getElem?_eq_getElem hlt]
      rfl
    have hmem := hl _ (List.getElem_mem hlt)
    rw [List.drop_eq_getElem_cons hlt, rightB]
    simp only [postings_right.l0]
    rw [if_pos (by omega), if_pos (by omega), if_pos (by omega), hrd]
    generalize l[i] = p at hmem ⊢
    unfold postB
    by_cases c1 : p.f0 ≤ last
    · rw [if_pos c1, show decide (last < p.f0) = false from decide_eq_false (by omega)]; rfl
    rw [if_neg c1, show decide (last < p.f0) = true from decide_eq_true (by omega)]
    by_cases c2 : p.f0 ≥ 16384
    · rw [if_pos c2, show decide (p.f0 < 16384) = false from decide_eq_false (by omega)]; rfl
    rw [if_neg c2, show decide (p.f0 < 16384) = true from decide_eq_true (by omega)]
    by_cases c3 : (p.f1.length : Int) = 0
    · rw [if_pos c3, show decide (1 ≤ p.f1.length) = false from decide_eq_false (by omega)]; rfl
    rw [if_neg c3, show decide (1 ≤ p.f1.length) = true from decide_eq_true (by omega)]
    have hw : wrap64 (all + (p.f1.length : Int)) = all + (p.f1.length : Int) := by unfold wrap64; omega
    rw [hw]
    by_cases c4 : all + (p.f1.length : Int) > 1048576
    · rw [if_pos c4, show decide (all + (p.f1.length : Int) ≤ 1048576) = false from decide_eq_false (by omega)]; rfl
    rw [if_neg c4, show decide (all + (p.f1.length : Int) ≤ 1048576) = true from decide_eq_true (by omega)]
    have hall1 : 0 ≤ all + (p.f1.length : Int) := by omega
    have hall2 : all + (p.f1.length : Int) ≤ 1048576 := by omega
    have hk2 : d + M + 1 < k := by omega
    have hd2 : l.length - (i + 1) = d := by omega
    have hih := ih (i + 1) k p.f0 (all + (p.f1.length : Int)) hd2 hlt hk2 hall1 hall2
    rw [sorted_f p.f1 (by omega) k (by omega)]
    simp only [Option.bind_some]
    by_cases c5 : ¬ (sortedB p.f1 = true)
    · rw [if_neg c5, Bool.eq_false_iff.2 c5]; rfl
    replace c5 := Classical.not_not.1 c5
    rw [if_pos c5, if_pos (by omega), c5]
    have e0 : rd p.f1 0 = p.f1.getD 0 0 := rfl
    rw [e0]
    by_cases c6 : p.f1.getD 0 0 < 0
    · rw [if_pos c6, show decide (0 ≤ p.f1.getD 0 0) = false from decide_eq_false (by omega)]; rfl
    rw [if_neg c6, show decide (0 ≤ p.f1.getD 0 0) = true from decide_eq_true (by omega)]
    have hw2 : wrap64 ((p.f1.length : Int) - 1) = ((p.f1.length - 1 : Nat) : Int) := by unfold wrap64; omega
    rw [hw2, if_pos (by omega), if_pos (by omega)]
    have e1 : rd p.f1 ((p.f1.length - 1 : Nat) : Int) = p.f1.getD (p.f1.length - 1) 0 := by unfold rd; rw [Int.toNat_natCast]
    rw [e1]
    by_cases c7 : p.f1.getD (p.f1.length - 1) 0 > 1048576
    · rw [if_pos c7, show decide (p.f1.getD (p.f1.length - 1) 0 ≤ 1048576) = false from decide_eq_false (by omega)]; rfl
    rw [if_neg c7, show decide (p.f1.getD (p.f1.length - 1) 0 ≤ 1048576) = true from decide_eq_true (by omega)]
    have hw3 : wrap64 ((i : Int) + 1) = ((i + 1 : Nat) : Int) := by unfold wrap64; omega
    rw [hw3, hih]
    rfl
theorem right_calls (A : Option Addr) (c : Nat) (l : List S58) (w : World) (h : Kd.C k58 w A l.length l) (hc : l.length ≤ c) (M : Nat) (hl : ∀ p ∈ l, p.f1.length ≤ M) (hM : M ≤ 140737488355328) (hn : l.length ≤ 140737488355328) :
    Calls Try.prog 41 #[.slice A l.length c] w fun e w' => e = .returned (.bool (rightB (-1) 0 l)) ∧ Below w.heap.size w w' :=
  postings_right.calls (l.length + M + 2) A c l _ w h hc (by
    have := right_l0 l M hl hM hn l.length 0 (l.length + M + 2) (-1) 0 (by omega) (by omega) (by omega) (by omega) (by omega)
    rw [List.drop_zero] at this
    unfold postings_right.f
    exact this)
end P
end Go.Proofs.Ytimlgpfcgklddaa
