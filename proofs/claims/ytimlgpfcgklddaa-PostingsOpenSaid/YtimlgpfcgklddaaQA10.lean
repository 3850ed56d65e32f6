/-
Texts of this seat, laid together: A10, M6.
-/
import Derived.Test.YtimlgpfcgklddaaQA7
namespace Go.Proofs.Ytimlgpfcgklddaa.P
open Go.RowKit Go.Shelf Go.Proofs.YtimlgpfcgklddaaW.PrintWords Go.Proofs.YtimlgpfcgklddaaW.PrintLast Go.Proofs.YtimlgpfcgklddaaW.PrintMore
attribute [local go_sem] Oper.semAt_some
attribute [local go_sem] min2_mn min_two
set_option linter.unusedVariables false
set_option linter.unusedSimpArgs false
def outOf {n : Nat} (l : List Int) (pre : List (Fin n)) : List Int := pre.flatMap fun j => packOne (chunkOf 128 l j.1)
def PutI {n : Nat} (l : List Int) (w : World) (pre : List (Fin n)) (W : World) : Prop :=
  ∃ v, W.heap[w.heap.size]? = some (.cells #[v] 25 (0, 0)) ∧ Lx .u8 5 W w.heap.size v (outOf l pre) ∧ Below w.heap.size w W ∧ w.heap.size + 3 ≤ W.heap.size
theorem PutI.own {n : Nat} (l : List Int) (w : World) (B : Nat) (hB : w.heap.size ≤ B) : OwnFrom B (PutI (n := n) l w) := by
  rintro s W W' row ⟨v, h1, h2, h3, h4⟩ hg hr
  have hne : ∀ k (cs : Array Value) (t : TypeId), W.heap[k]? = some (.cells cs t (0, 0)) → some k ≠ row := by
    intro k cs t hk e
    obtain ⟨_, o, ho, hc⟩ := hr k e.symm
    rw [hk] at ho
    injection ho with ho
    subst ho
    cases hc
  refine ⟨v, (hg.block _ (blk_lt h1) (hne _ _ _ h1)).trans h1, Lax.grown h2 hg (fun k hk => ?_), h3.grown hg h3.size (fun k e => by have := (hr k e).1; omega), by have := hg.size; omega⟩
  obtain ⟨cells, hc⟩ := Lax.typed h2 k hk
  exact hne _ _ _ hc
theorem gi_gate {F : Fence} {nF : Nat} {P : Program} {ops : Array Oper} {rest : List Oper} {o : Oper} {a : Act} {W : World} {Q : Exit → Act → World → Prop} {b : Builtin} {xs : Array Operand} {ts : Array TypeId} (_ho : o.op = .call { callee := .builtin b, args := xs, argTypes := ts }) (h : wpListIn F nF P ops Q (o :: rest) a W) : wpListIn F nF P ops Q (o :: rest) a W := h
theorem two_stores {W w2 w6 : World} {B : Nat} {u u' : Value} (h1 : Below W.heap.size W w2) (h2 : Below W.heap.size (w2.setCell ⟨B, 0, none⟩ u) w6) : W.grownBy (w6.setCell ⟨B, 0, none⟩ u') (some B) :=
  ⟨h2.os.trans h1.os, h2.tape.trans h1.tape, h2.output.trans h1.output, by
    have a1 := h1.size
    have a2 := h2.size
    simp [World.setCell] at a2 ⊢
    omega, fun k hk hne => by
    have hkB : k ≠ B := fun e => hne (by rw [e])
    rw [Below.heap_setCell _ _ _ _ hkB, h2.block k hk, Below.heap_setCell _ _ _ _ hkB, h1.block k hk]⟩
set_option maxHeartbeats 1000000 in
theorem Bits_none (A : Option Addr) (n c : Nat) (w : World) : Calls Try.prog 105 #[.slice A n c, .int .i64 0] w fun e w' => e = .returned (.slice none 0 0) ∧ w = w' := by
  go_enter Try.func105, Try.ntmps105
  go_wp2
  go_ret
  exact ⟨rfl, rfl⟩
theorem Bits_any (A : Option Addr) (l : List Int) (n c : Nat) (wd : Nat) (w : World) (hn : l.length = n) (h : (Kd.int .u64).C w A l.length l) (hc : n ≤ c) (hw1 : wd ≤ 64) (hl : n ≤ 1048576) (hr : ∀ x ∈ l, 0 ≤ x ∧ x.toNat < 2 ^ wd) :
    Calls Try.prog 105 #[.slice A n c, .int .i64 wd] w fun e w' => ∃ v, e = .returned v ∧ (Kd.int .u8).R 5 w' w.heap.size (fun _ => True) v (leB ((wd * n + 7) / 8) (packN wd l)) ∧ Below w.heap.size w w' := by
  subst hn
  rcases Nat.eq_zero_or_pos wd with rfl | hp
  · refine (Bits_none A l.length c w).mono ?_
    rintro e w' ⟨rfl, rfl⟩
    refine ⟨_, rfl, ?_, Below.refl _ _⟩
    rw [Nat.zero_mul]
    exact Kd.R_nil _ _ _ _ _
  · exact Bits_calls A l c wd w h hc hp hw1 hl hr
theorem flatMap_finRange {β : Type} (n : Nat) (f : Nat → List β) : (List.finRange n).flatMap (fun j => f j.1) = (List.range n).flatMap f := by
  have h : (List.finRange n).map (fun j => j.1) = List.range n := by
    apply List.ext_getElem?
    intro i
    by_cases hi : i < n
    · simp [hi]
    · simp [List.getElem?_eq_none, Nat.le_of_not_lt hi]
  rw [← h, List.flatMap_map]
theorem outOf_all (l : List Int) : outOf l (List.finRange (cuts 128 l.length)) = packPut l := flatMap_finRange _ (fun j => packOne (chunkOf 128 l j))
theorem outOf_len {n : Nat} (l : List Int) (hr : ∀ x ∈ l, -9223372036854775808 ≤ x ∧ x ≤ 9223372036854775807) (pre : List (Fin n)) : (outOf l pre).length ≤ 1200 * pre.length := by
  unfold outOf
  induction pre with
  | nil => simp
  | cons j r ih =>
    rw [List.flatMap_cons, List.length_append, List.length_cons]
    have h1 : (packOne (chunkOf 128 l j.1)).length ≤ 1100 := by
      have h2 := packOne_len (chunkOf 128 l j.1) (fun y hy => hr y (List.mem_of_mem_drop (List.mem_of_mem_take hy)))
      have h3 : (chunkOf 128 l j.1).length ≤ 128 := by unfold chunkOf; rw [List.length_take]; omega
      omega
    omega
theorem put_step (ys : List Int) (k : Nat) (h : k < ys.length) (v : Int) (hv : ys.getD k 0 = v) : (ys.take k ++ List.replicate (ys.length - k) 0).set k v = ys.take (k + 1) ++ List.replicate (ys.length - (k + 1)) 0 := by
  obtain ⟨d, hd⟩ : ∃ d, ys.length - k = d + 1 := ⟨ys.length - k - 1, by omega⟩
  rw [hd, show ys.length - (k + 1) = d from by omega, take_rd ys k h, hv, List.replicate_succ]
  rw [List.set_append_right _ _ (by rw [List.length_take]; omega)]
  rw [show k - (ys.take k).length = 0 from by rw [List.length_take]; omega, List.set_cons_zero, List.append_assoc]
  rfl
theorem above_rd (xs : List Int) (k : Nat) (h : k < xs.length) : (above xs).getD k 0 = (rd xs k - minI xs) % 18446744073709551616 := by
  unfold above rd
  rw [Int.toNat_natCast, List.getD_eq_getElem?_getD, List.getD_eq_getElem?_getD, List.getElem?_map, List.getElem?_eq_getElem h]
  rfl
set_option maxRecDepth 100000 in
set_option maxHeartbeats 4000000 in
theorem Put_calls (A : Option Addr) (l : List Int) (c : Nat) (w : World) (h : (Kd.int .i64).C w A l.length l) (hc : l.length ≤ c) (hl : l.length ≤ 1048576) (hr : ∀ x ∈ l, -9223372036854775808 ≤ x ∧ x ≤ 9223372036854775807) :
    Calls Try.prog 77 #[.slice A l.length c] w fun e w' => ∃ v, e = .returned v ∧ Lx .u8 5 w' w.heap.size v (packPut l) ∧ Below w.heap.size w w' := by
  have H := Aside0.mk h
  have HR := Aside0.mk hr
  have HA : Aside0 (A = none → l.length = 0) := ⟨fun e => by
    rcases Nat.eq_zero_or_pos l.length with h0 | h0
    · exact h0
    · obtain ⟨ad, e', _⟩ := h.2.2 h0
      rw [e] at e'
      cases e'⟩
  clear h hr
  refine (callsIn_wide (n := 4)).1 ?_
  refine callsIn_of_wp_marks Try.func77 rfl trivial ?_ rfl
  simp only [Try.ntmps77, List.size_toArray, List.length_cons, List.length_nil, Nat.reduceAdd, Nat.reduceSub, Array.replicate_succ, Array.replicate_zero, List.push_toArray, List.append_toArray, List.nil_append, List.cons_append]
  gi_wp2_with (refine ⟨trivial, ?_⟩; gi_at_call 102; refine (callsIn_wide.2 (Chunk102_calls A l.length c 128 _ (by omega) (by omega))).mono ?_; rintro e w1 ⟨rfl, rfl⟩)
  obtain ⟨W0, hW0⟩ : ∃ W0, ((w.alloc (.cells #[.slice none 0 0] 25)).alloc (.cells #[.slice A l.length c] 85)).alloc (.cells #[.int .i64 128] 3) = W0 := ⟨_, rfl⟩
  have hsz : W0.heap.size = w.heap.size + 3 := by rw [← hW0]; simp
  have hb0 : W0.heap[w.heap.size]? = some (.cells #[.slice none 0 0] 25 (0, 0)) := by
    rw [← hW0, Below.heap_alloc _ _ _ (by simp; omega), Below.heap_alloc _ _ _ (by simp)]; exact blk_new w _
  have hb1 : W0.heap[w.heap.size + 1]? = some (.cells #[.slice A l.length c] 85 (0, 0)) := by
    rw [← hW0, Below.heap_alloc _ _ _ (by simp)]
    have := blk_new (w.alloc (.cells #[.slice none 0 0] 25)) (.cells #[.slice A l.length c] 85)
    rwa [World.size_alloc] at this
  have hb2 : W0.heap[w.heap.size + 1 + 1]? = some (.cells #[.int .i64 128] 3 (0, 0)) := by
    rw [← hW0]
    have := blk_new ((w.alloc (.cells #[.slice none 0 0] 25)).alloc (.cells #[.slice A l.length c] 85)) (.cells #[.int .i64 128] 3)
    rwa [World.size_alloc, World.size_alloc] at this
  have hB0 : Below w.heap.size w W0 := by
    rw [← hW0]
    exact ((((Below.refl _ w).alloc (Nat.le_refl _) _).alloc (by simp) _).alloc (by simp; omega) _)
  rw [hW0]
  clear hW0
  have hst := chunk126_stops Fence.wide 3 trivial rfl (by omega) (w.heap.size + 1) (w.heap.size + 1 + 1) 128 l.length c A (by omega) (by omega) (by omega) hc HA.out W0 (by omega) (by omega) (blk_cell hb1 0) (blk_cell hb2 0)
  refine wpIn_rangeFunc_ownG rfl (by omega) (gf := 126) (lb := #[.pointer (some ⟨w.heap.size + 1, 0, none⟩), .pointer (some ⟨w.heap.size + 1 + 1, 0, none⟩)]) rfl trivial (enters_of Try.func126 (by kernel_rfl) rfl) hst (fun h k => h.trans k) (Keep2.b (by omega) (by omega)) (Below.refl _ _) (fun _ => rfl)
    (PutI l w) (fun _ _ _ => False) (PutI.own l w _ (by omega)) (fun _ _ _ _ _ hs _ _ => hs) ⟨_, hb0, Lx.nil _ _ _ _, hB0, by omega⟩
    (fun x => { tmps := #[.slice A l.length c, undef, .slice none 0 0, .pointer (some ⟨w.heap.size, 0, none⟩), chunkVal 1 A 128 l.length x.1, undef, undef, undef, undef, undef, .slice A l.length c, .func (.func 126) #[] #[.pointer (some ⟨w.heap.size + 1, 0, none⟩), .pointer (some ⟨w.heap.size + 1 + 1, 0, none⟩)], chunkVal 1 A 128 l.length x.1, undef, undef, undef, undef, undef, undef, undef, undef, undef, undef, undef, undef, undef, undef, undef, undef, undef, undef, undef, undef, undef, undef, undef, undef, undef, undef, undef, undef, undef, undef, undef, undef, undef, undef, undef, undef, undef], defers := [] }) ?assign ?body ?done ?stop
  case assign =>
    intro l x W K hK
    gi_wp2
    exact hK
  case body =>
    rintro lp pre x W ⟨v, hv, hvx, hB, hBs3⟩ hlen
    rcases A with _ | ad
    · exfalso
      have h1 := HA.out rfl
      have h2 : x.1 < cuts 128 l.length := x.2
      have h3 : cuts 128 l.length = 0 := by rw [h1]; rfl
      omega
    · obtain ⟨hx1, hx2, hx3⟩ := chunkOf_pos (l := l) (by omega) rfl x
      have hC : (Kd.int .i64).C W (some (ad.add (x.1 * 128 * 1))) (chunkOf 128 l x.1).length (chunkOf 128 l x.1) := C_chunk (N := 128) (Kd.C_below H.out hB) x.1 (by omega)
      have hval : chunkVal 1 (some ad) 128 l.length x.1 = .slice (some (ad.add (x.1 * 128 * 1))) (chunkOf 128 l x.1).length (chunkOf 128 l x.1).length := by
        rw [chunkOf_len]; rfl
      have hrx : ∀ y ∈ chunkOf 128 l x.1, -9223372036854775808 ≤ y ∧ y ≤ 9223372036854775807 := fun y hy => HR.out y (List.mem_of_mem_drop (List.mem_of_mem_take hy))
      have hxs : outOf l (pre ++ [x]) = outOf l pre ++ packOne (chunkOf 128 l x.1) := by unfold outOf; rw [List.flatMap_append]; simp
      have hol := outOf_len l HR.out pre
      have hpl : pre.length ≤ 8192 := by
        have : cuts 128 l.length ≤ 8192 := by unfold cuts; omega
        omega
      rw [hval]
      generalize ad.add (x.1 * 128 * 1) = ad' at hC ⊢
      generalize chunkOf 128 l x.1 = xs at hC hx2 hx3 hrx hxs ⊢
      obtain ⟨out, hout⟩ : ∃ out, outOf l pre = out := ⟨_, rfl⟩
      rw [hout] at hvx hol hxs
      have HX := Aside0.mk hxs
      have HRX := Aside0.mk hrx
      have HCX : Aside0 ((Kd.int .i64).C W (some ad') xs.length xs) := ⟨hC⟩
      have HV := Aside0.mk hvx
      have HBX := Aside0.mk hB
      have HBo := Aside0.mk hv
      have HHout := Aside0.mk hout
      clear hval hxs hrx hC hvx hB hv hout
      have hmk := print_make (P := Try.prog) 151 78 .u64 8 Try.underlying151 info78 (by decide) xs.length (by omega)
      gi_wp2_with (refine ⟨trivial, ?_⟩; gi_at_call 103; refine (CallsIn.inRound lp (callsIn_wide.2 (Min_calls _ _ _ _ HCX.out (Nat.le_refl _) hx2))).mono ?_; rintro e w1 ⟨rfl, rfl⟩)
      have hR0 : (Kd.int .u64).R 78 (W.alloc (.cells (madeCells #[.int .u64 0] xs.length) 78)) W.heap.size (fun _ => True) (.slice (some ⟨W.heap.size, 0, none⟩) xs.length xs.length) (List.replicate xs.length 0) := Kd.R_of_own (own_made' W W.heap.size 78 .u64 xs.length (Nat.le_refl _) (by omega)) (fun _ _ => trivial)
      have HR0 := Aside0.mk hR0
      clear hR0 hmk
      have HAL := Aside0.mk (above_length xs)
      gi_loopw [20] (fun i wr => ∃ k : Nat, i = .int .i64 k ∧ k ≤ xs.length ∧ Aside0 ((Kd.int .u64).R 78 wr W.heap.size (fun _ => True) (.slice (some ⟨W.heap.size, 0, none⟩) xs.length xs.length) ((above xs).take k ++ List.replicate (xs.length - k) 0)) ∧ Aside0 (Below W.heap.size W wr)) (fun i _ => xs.length - (intOf i).toNat)
      case atStart => exact ⟨0, rfl, Nat.zero_le _, by simpa using HR0, ⟨below_alloc (Below.refl _ _) _⟩⟩
      case round =>
        clear HR0
        obtain ⟨k, rfl, hk, HO, HBw⟩ := hrel
        by_cases hlt : k < xs.length
        · obtain ⟨ad2, e2, hx⟩ := Kd.at_int (Kd.C_below HCX.out HBw.out) (k : Int) (by omega) (by omega)
          cases e2
          rw [Int.toNat_natCast] at hx
          obtain ⟨hcell, hfroz⟩ := Kd.R_celln (0 : Int) HO.out (k : Int) (by omega) (by omega)
          rw [Int.toNat_natCast] at hcell hfroz
          gi_wp2
          go_roundw
          case rel =>
            refine ⟨k + 1, by first | rfl | (simp; done), hlt, ?_, ?_⟩
            · have hput := Kd.R_putn HO.out (k : Int) ((rd xs k - minI xs) % 18446744073709551616)
              rw [Int.toNat_natCast, ← HAL.out, put_step (above xs) k (by rw [HAL.out]; exact hlt) _ (above_rd xs k hlt), HAL.out] at hput
              rw [show IntKind.u64.wrap (IntKind.u64.wrap (rd xs k) - IntKind.u64.wrap (minI xs)) = (rd xs k - minI xs) % 18446744073709551616 from by rw [wrap_u64, wrap_u64, wrap_u64]; omega]
              exact ⟨hput⟩
            · exact ⟨HBw.out.setCell (Nat.le_refl _) _⟩
          case measure => simp [intOf]; omega
        · have e : k = xs.length := by omega
          have hge : xs.length ≤ k := by omega
          have HO2 : Aside0 ((Kd.int .u64).R 78 wr W.heap.size (fun _ => True) (.slice (some ⟨W.heap.size, 0, none⟩) (above xs).length xs.length) (above xs)) := ⟨by
            have := HO.out
            rw [e, Nat.sub_self, ← HAL.out, List.take_length, HAL.out] at this
            rw [HAL.out]
            simpa using this⟩
          have HO3 : Aside0 ((Kd.int .u64).C wr (some ⟨W.heap.size, 0, none⟩) (above xs).length (above xs)) := ⟨(Kd.R_reads' HO2.out).2.2⟩
          have HS := Aside0.mk (above_range xs)
          have hal := HAL.out
          clear hlt e HO
          obtain ⟨ys, hys⟩ : ∃ ys, above xs = ys := ⟨_, rfl⟩
          rw [hys] at HO2 HO3 HS hal
          have HY := Aside0.mk hys
          clear hys
          have HVw : Aside0 (Lx .u8 5 wr w.heap.size v out) := ⟨Lx.below HV.out (HBw.out)⟩
          obtain ⟨A2, c2, rfl, hc2, hC2⟩ := HVw.out.reads
          have HC2 := Aside0.mk hC2
          clear hC2
          have hbw : wr.heap[w.heap.size]? = some (.cells #[.slice A2 out.length c2] 25 (0, 0)) := (HBw.out.block _ (blk_lt HBo.out)).trans HBo.out
          have hBlt := blk_lt HBo.out
          have hcw := blk_cell hbw 0
          have hfw := blk_frozen hbw 0
          have HBoxw := Aside0.mk hbw
          clear hbw
          have hmin : -9223372036854775808 ≤ minI xs ∧ minI xs ≤ 9223372036854775807 := HRX.out _ (minI_mem xs (by intro e0; rw [e0] at hx2; simp at hx2))
          have HMIN := Aside0.mk hmin
          clear hmin
          obtain ⟨wd, hwd⟩ : ∃ wd, widthOf ys = wd := ⟨_, rfl⟩
          have HWD := Aside0.mk hwd
          have hwd64 : wd ≤ 64 := by rw [← hwd]; exact widthOf_le _
          have HFIT : Aside0 (∀ x ∈ ys, 0 ≤ x ∧ x.toNat < 2 ^ wd) := ⟨by rw [← hwd]; exact width_fits ys HS.out⟩
          have hW := Width_calls (some ⟨W.heap.size, 0, none⟩) ys xs.length wr HO3.out (by omega) HS.out
          rw [hal, hwd] at hW
          have HW := Aside0.mk hW
          clear hW hwd
          gi_wp2_with (first | (refine ⟨trivial, ?_⟩; gi_at_call 104; refine (CallsIn.inRound lp (callsIn_wide.2 HW.out)).mono ?_; rintro e w1 ⟨rfl, rfl⟩) | (refine ⟨trivial, ?_⟩; gi_at_call 91; refine (CallsIn.inRound lp (callsIn_wide.2 (PutInt_calls _ out _ _ _ HC2.out hc2 (by omega) HMIN.out.1 HMIN.out.2))).mono ?_; rintro e w2 ⟨v2, rfl, ho2, hb2⟩; obtain ⟨o2, ho2e⟩ : ∃ o2, out ++ uv (zz (minI xs)) = o2 := ⟨_, rfl⟩; rw [ho2e] at ho2; have HE2 := Aside0.mk ho2e; clear ho2e; obtain ⟨A3, c3, rfl, hc3, _⟩ := ho2.reads; have hbx2 := (hb2.block _ (blk_lt HBoxw.out)).trans HBoxw.out; have hcx2 := blk_cell hbx2 0; have hfx2 := blk_frozen hbx2 0; clear hcw hfw; have HO4 := Aside0.mk ho2; have HB2 := Aside0.mk hb2; have HBX2 := Aside0.mk hbx2; clear ho2 hb2 hbx2; have HB2W := Aside0.mk (HBw.out.trans (HB2.out.mono HBw.out.size)); have HL2 : Aside0 (o2.length ≤ 20000000) := ⟨by have h1 := congrArg List.length HE2.out; have h2 := zz_range HMIN.out.1 HMIN.out.2; have h3 := uv_len h2.2; rw [List.length_append] at h1; omega⟩; have HR3 := Aside0.mk (Kd.R_set (Kd.R_below HO2.out HB2.out) HBX2.out (by decide) 0 (.slice A3 o2.length c3)); have HO5 := Aside0.mk (Lax.lower (Lax.far (p := ⟨w.heap.size, 0, none⟩) HO4.out (fun k hk => by have := Lax.base_le HO4.out k hk; have := HBw.out.size; show k ≠ w.heap.size; omega) (.slice A3 o2.length c3)) HBw.out.size)) | ((with_reducible refine gi_gate (xs := #[.tmp 39, .tmp 42]) rfl ?_); gi_at_builtin; refine Lx.append_one_in (w0 := w2.setCell ⟨w.heap.size, 0, none⟩ (.slice A3 o2.length c3)) .u8 W.heap.size rfl (.tmp 39) (.tmp 42) 25 5 1 rfl Try.underlying25 info5 (by decide) (.slice A3 o2.length c3) o2 (wd : Int) w2.heap.size ?aN rfl rfl ?aO ?aB ?aS ?aL ?_; (case aN => simp [World.setCell]); (case aO => exact HO5.out); (case aB => exact Below.refl _ _); (case aS => have := HB2W.out.size; simp [World.setCell]; omega); (case aL => have := HL2.out; omega); intro v4 w4 ho4 hb4 hg4 _; obtain ⟨o3, ho3e⟩ : ∃ o3, o2 ++ [(wd : Int)] = o3 := ⟨_, rfl⟩; rw [ho3e] at ho4; have HE3 := Aside0.mk ho3e; clear ho3e; obtain ⟨A4, c4, rfl, hc4, _⟩ := ho4.reads; have HR4 := Aside0.mk (Kd.R_over' HR3.out (Lax.typed HO5.out) (by decide) hg4); have HO6 := Aside0.mk ho4; have HB4 := Aside0.mk hb4; clear ho4 hb4 hg4; have HL3 : Aside0 (o3.length ≤ 20000001) := ⟨by have h1 := congrArg List.length HE3.out; rw [List.length_append, List.length_singleton] at h1; have := HL2.out; omega⟩) | (refine ⟨trivial, ?_⟩; gi_at_call 105; refine (CallsIn.inRound lp (callsIn_wide.2 (Bits_any _ ys xs.length _ wd _ hal (Kd.R_reads' HR4.out).2.2 (Nat.le_refl _) hwd64 (by omega) HFIT.out))).mono ?_; rintro e w5 ⟨v5, rfl, ho5, hb5⟩; obtain ⟨bs, hbs⟩ : ∃ bs, leB ((wd * xs.length + 7) / 8) (packN wd ys) = bs := ⟨_, rfl⟩; rw [hbs] at ho5; have HE5 := Aside0.mk hbs; clear hbs; obtain ⟨A5, c5, rfl⟩ := Kd.R_slice ho5; have HO7 := Aside0.mk (Kd.R_reads' ho5).2.2; have HO8 := Aside0.mk (Lx.below HO6.out hb5); have HB5 := Aside0.mk (HB4.out.trans (hb5.mono (by have h1 := HB4.out.size; have h2 := HB2W.out.size; simp [World.setCell] at h1; omega))); clear ho5 hb5; have HL5 : Aside0 (bs.length ≤ 2000) := ⟨by have h1 := congrArg List.length HE5.out; rw [leB_length] at h1; have h2 : wd * xs.length ≤ 64 * 128 := Nat.mul_le_mul hwd64 hx3; omega⟩) | ((with_reducible refine gi_gate (xs := #[.tmp 43, .tmp 46]) rfl ?_); gi_at_builtin; refine Lx.append_row_in (w0 := w2.setCell ⟨w.heap.size, 0, none⟩ (.slice A3 o2.length c3)) .u8 W.heap.size rfl (.tmp 43) (.tmp 46) 25 5 1 rfl Try.underlying25 info5 (by decide) (.slice A4 o3.length c4) o3 bs A5 bs.length c5 rfl rfl ?aO ?aR ?aB ?aS ?aL ?_; (case aO => exact HO8.out); (case aR => exact HO7.out); (case aB => exact HB5.out); (case aS => have h1 := HB5.out.size; have h2 := HB2W.out.size; simp [World.setCell] at h1; omega); (case aL => have := HL3.out; have := HL5.out; omega); intro v6 w6 ho6 hb6 _ _; obtain ⟨o4, ho4e⟩ : ∃ o4, o3 ++ bs = o4 := ⟨_, rfl⟩; rw [ho4e] at ho6; have HE6 := Aside0.mk ho4e; clear ho4e; obtain ⟨A6, c6, rfl, _, _⟩ := ho6.reads; have hbx6 := (hb6.block _ hBlt).trans (blk_set HBX2.out 0 (.slice A3 o2.length c3)); have hcx6 := blk_cell hbx6 0; have hfx6 := blk_frozen hbx6 0; have HO9 := Aside0.mk ho6; have HB6 := Aside0.mk hb6; have HBX6 := Aside0.mk hbx6; clear ho6 hb6 hbx6))
          have hgr := two_stores (u' := .slice A6 o4.length c6) HB2W.out HB6.out
          have hsz6 := hgr.size
          have hlist : outOf l (pre ++ [x]) = o4 := by
            rw [HX.out]
            unfold packOne
            rw [HY.out, HWD.out, HE5.out, ← List.append_assoc, ← List.append_assoc, HE2.out, HE3.out, HE6.out]
          refine ⟨KeepsFrom.of_grownBy hgr (fun j e => by cases e; omega), Keep2.grown hgr (by omega) (by omega) (fun e => by injection e; omega) (fun e => by injection e; omega), ⟨_, blk_set HBX6.out 0 _, ?_, HBX.out.grown hgr (by omega) (fun k e => by cases e; exact Nat.le_refl _), by omega⟩⟩
          rw [hlist]
          exact Lx.lower (Lx.far (p := ⟨w.heap.size, 0, none⟩) HO9.out (fun k hk => by have := Lax.base_le HO9.out k hk; show k ≠ w.heap.size; omega) (.slice A6 o4.length c6)) (by omega)
  case done =>
    rintro D ys W hD rfl ⟨v, hv, hvx, hB, hBs3⟩ hK
    obtain ⟨o, ho⟩ : ∃ o, outOf l (List.finRange (cuts 128 l.length)) = o := ⟨_, rfl⟩
    rw [ho] at hvx
    have HOo := Aside0.mk ho
    obtain ⟨A2, c2, rfl, hc2, hC2⟩ := hvx.reads
    have HC2 := Aside0.mk hC2
    have HVX := Aside0.mk hvx
    have hcw := blk_cell hv 0
    have hfw := blk_frozen hv 0
    clear ho hC2 hvx hst
    gi_wp2_with (refine ⟨trivial, ?_⟩; gi_at_call 45; refine (callsIn_wide.2 (Clip_calls A2 o.length c2 _ hc2 (Kd.C_max HC2.out))).mono ?_; rintro e w1 ⟨rfl, rfl⟩)
    have hgD := grownBy_putObj' W D (.deferred none)
    have hrD : ∀ r, (some D : Option Nat) = some r → ∃ o : Obj, W.heap[r]? = some o ∧ o.isCells = false := fun r e => by cases e; exact ⟨_, hK, rfl⟩
    have hfin : Lx .u8 5 (W.putObj D (.deferred none)) w.heap.size (.slice A2 o.length o.length) (packPut l) := by
      have h1 : outOf l (List.finRange (cuts 128 l.length)) = packPut l := outOf_all l
      rw [← h1, HOo.out]
      exact Lax.clip (Lx.own HVX.out hgD hrD)
    refine ⟨by simp, .inl ⟨_, _, rfl, run_takeDeferred hK, ?_⟩⟩
    exact ⟨_, results_tmp (t := 2) rfl _ _ _, _, rfl, hfin, hB.grown hgD hB.size (fun k e => by cases e; omega)⟩
  case stop =>
    rintro D c' pre W _ _ h _
    exact h.elim
end Go.Proofs.Ytimlgpfcgklddaa.P
namespace Go.Proofs.Ytimlgpfcgklddaa
/-- Each number less the one ahead, less 1. -/
def gaps (last : Int) : List Int → List Int
  | [] => []
  | d :: r => (d - last - 1) :: gaps d r
def lastOf (last : Int) : List Int → Int
  | [] => last
  | d :: r => lastOf d r
theorem gaps_snoc (l : List Int) : ∀ (last d : Int), gaps last (l ++ [d]) = gaps last l ++ [d - lastOf last l - 1] := by
  induction l with
  | nil => intro last d; rfl
  | cons x r ih => intro last d; simp only [List.cons_append, gaps, lastOf, ih]
theorem lastOf_snoc (l : List Int) : ∀ (last d : Int), lastOf last (l ++ [d]) = d := by
  induction l with
  | nil => intro last d; rfl
  | cons x r ih => intro last d; simp only [List.cons_append, lastOf, ih]
theorem gaps_length (l : List Int) : ∀ last : Int, (gaps last l).length = l.length := by
  induction l with
  | nil => intro last; rfl
  | cons x r ih => intro last; simp only [gaps, List.length_cons, ih]
/-- Each number less the one ahead. -/
def diffs (at_ : Int) : List Int → List Int
  | [] => []
  | d :: r => (d - at_) :: diffs d r
theorem diffs_snoc (l : List Int) : ∀ (at_ d : Int), diffs at_ (l ++ [d]) = diffs at_ l ++ [d - lastOf at_ l] := by
  induction l with
  | nil => intro at_ d; rfl
  | cons x r ih => intro at_ d; simp only [List.cons_append, diffs, lastOf, ih]
theorem diffs_length (l : List Int) : ∀ at_ : Int, (diffs at_ l).length = l.length := by
  induction l with
  | nil => intro at_; rfl
  | cons x r ih => intro at_; simp only [diffs, List.length_cons, ih]
theorem lastOf_range (l : List Int) (a b : Int) (h : ∀ x ∈ l, a ≤ x ∧ x ≤ b) : ∀ last : Int, a ≤ last → last ≤ b → a ≤ lastOf last l ∧ lastOf last l ≤ b := by
  induction l with
  | nil => intro last h0 h1; exact ⟨h0, h1⟩
  | cons x r ih =>
    intro last h0 h1
    have hx := h x List.mem_cons_self
    exact ih (fun y hy => h y (List.mem_cons_of_mem _ hy)) x hx.1 hx.2
theorem gaps_range (l : List Int) (a b : Int) (h : ∀ x ∈ l, a ≤ x ∧ x ≤ b) : ∀ last : Int, a ≤ last → last ≤ b → ∀ y ∈ gaps last l, a - b - 1 ≤ y ∧ y ≤ b - a := by
  induction l with
  | nil => intro last _ _ y hy; cases hy
  | cons x r ih =>
    intro last h0 h1 y hy
    have hx := h x List.mem_cons_self
    rcases List.mem_cons.1 hy with rfl | hy
    · omega
    · exact ih (fun y hy => h y (List.mem_cons_of_mem _ hy)) x hx.1 hx.2 y hy
theorem diffs_range (l : List Int) (a b : Int) (h : ∀ x ∈ l, a ≤ x ∧ x ≤ b) : ∀ last : Int, a ≤ last → last ≤ b → ∀ y ∈ diffs last l, a - b ≤ y ∧ y ≤ b - a := by
  induction l with
  | nil => intro last _ _ y hy; cases hy
  | cons x r ih =>
    intro last h0 h1 y hy
    have hx := h x List.mem_cons_self
    rcases List.mem_cons.1 hy with rfl | hy
    · omega
    · exact ih (fun y hy => h y (List.mem_cons_of_mem _ hy)) x hx.1 hx.2 y hy
end Go.Proofs.Ytimlgpfcgklddaa
