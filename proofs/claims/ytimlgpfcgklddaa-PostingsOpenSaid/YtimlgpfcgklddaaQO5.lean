/-
Texts of this seat, laid together: O5, M8, M9, M10, C9, D1, D2.
-/
import Derived.Test.YtimlgpfcgklddaaQF107
import Derived.Test.YtimlgpfcgklddaaQA1
import Derived.Test.YtimlgpfcgklddaaQC1
import Derived.Test.YtimlgpfcgklddaaQO2
import Derived.Test.YtimlgpfcgklddaaQC8
import Derived.Test.YtimlgpfcgklddaaQO3
namespace Go.Proofs.Ytimlgpfcgklddaa
open Go.RowKit Go.Proofs.YtimlgpfcgklddaaW.PrintWords Go.Proofs.YtimlgpfcgklddaaW.PrintLast
set_option linter.unusedVariables false
theorem shr8 (X r : Nat) (h : r < 8) : shr .u8 (X : Int) (IntKind.u64.wrap (r : Int)) = ((X / 2 ^ r : Nat) : Int) := by
  rw [u64w (by omega) (by omega)]
  show (X : Int) / 2 ^ min ((r : Int)).toNat 8 = _
  rw [show min ((r : Int)).toNat 8 = r from by omega, Int.natCast_ediv]
  congr 1
theorem shl64 (b r : Nat) (hb : b < 2) (h : r < 64) : shl .u64 (b : Int) (IntKind.u64.wrap (r : Int)) = ((b * 2 ^ r : Nat) : Int) := by
  rw [u64w (by omega) (by omega)]
  have : ∀ b : Fin 2, ∀ r : Fin 64, shl .u64 ((b.val : Nat) : Int) ((r.val : Nat) : Int) = ((b.val * 2 ^ r.val : Nat) : Int) := by decide +kernel
  exact this ⟨b, hb⟩ ⟨r, h⟩
theorem byte_at (bs : List Int) (hb : ∀ x ∈ bs, 0 ≤ x ∧ x < 256) (j : Nat) (hj : j < bs.length) : rd bs (j : Int) = ((leVal bs / 256 ^ j % 256 : Nat) : Int) := by
  have h := leB_get bs.length (leVal bs) j hj
  rw [leVal_leB bs hb] at h
  unfold rd
  rw [Int.toNat_natCast, List.getD_eq_getElem?_getD, h]
  rfl
theorem bit_eq (bs : List Int) (hb : ∀ x ∈ bs, 0 ≤ x ∧ x < 256) (hl : bs.length ≤ 140737488355328) (a : Nat) (ha : a < 8 * bs.length) : P.lecternref03_bit.f bs (a : Int) = some ((leVal bs / 2 ^ a % 2 : Nat) : Int) := by
  have hp := piece (leVal bs) a 1 (by omega)
  have h8 : leVal bs / 256 ^ (a / 8) % 256 < 256 := Nat.mod_lt _ (by decide)
  unfold P.lecternref03_bit.f
  rw [tm8, td8, w64n (a / 8) (by omega), if_pos (by omega), if_pos (by omega), if_pos (wr_nn _ (by omega)), byte_at bs hb (a / 8) (by omega), shr8 _ _ (by omega)]
  have h9 : leVal bs / 256 ^ (a / 8) % 256 / 2 ^ (a % 8) ≤ leVal bs / 256 ^ (a / 8) % 256 := Nat.div_le_self _ _
  rw [show (2 : Nat) ^ 1 = 2 from rfl] at hp
  rw [← hp]
  generalize leVal bs / 256 ^ (a / 8) % 256 / 2 ^ (a % 8) = Z at h9 ⊢
  rw [u64w (by omega) (by omega), and1 _ (by omega)]
theorem or64 (x b k : Nat) (hx : x < 2 ^ k) (hb : b < 2) (hk : k < 64) : Go.bits .or .u64 (x : Int) ((b * 2 ^ k : Nat) : Int) = ((x + b * 2 ^ k : Nat) : Int) := by
  have h2 : 2 ^ k ≤ 2 ^ 63 := Nat.pow_le_pow_right (by decide) (by omega)
  have h3 : b * 2 ^ k ≤ 1 * 2 ^ k := Nat.mul_le_mul_right _ (by omega)
  have h5 := (bits_nat .u64 64 (Nat.le_refl _) (fun n h0 h1 => by rw [wrap_u64]; omega) x (b * 2 ^ k) (by omega) (by omega)).2
  rw [or_low hx] at h5
  exact h5
theorem unb_l2 (bs acc : List Int) (hb : ∀ x ∈ bs, 0 ≤ x ∧ x < 256) (hl : bs.length ≤ 140737488355328) : ∀ (d a : Nat), a + d = 8 * bs.length → Ev (fun k => P.lecternref03_Unbits.l2 k bs acc a) (if leVal bs / 2 ^ a = 0 then (acc, 0) else ([], 20))
  | 0, a, h => by
    have h1 := leVal_lt bs hb
    rw [show (256 : Nat) = 2 ^ 8 from rfl, ← Nat.pow_mul, show 8 * bs.length = a from by omega] at h1
    rw [if_pos (Nat.div_eq_of_lt h1)]
    refine ev1 (f := fun _ => some (acc, 0)) (fun k => ?_) (Ev.now _)
    rw [P.lecternref03_Unbits.l2, w64 (by omega) (by omega), if_neg (by omega)]
  | d + 1, a, h => by
    have ih := unb_l2 bs acc hb hl d (a + 1) (by omega)
    have hbit := bit_eq bs hb hl a (by omega)
    rw [Nat.pow_succ, ← Nat.div_div_eq_div_mul] at ih
    obtain ⟨N, hN⟩ : ∃ N, leVal bs / 2 ^ a = N := ⟨_, rfl⟩
    rw [hN] at hbit ih ⊢
    by_cases h0 : N % 2 = 0
    · have e : (if N = 0 then (acc, (0 : Int)) else ([], 20)) = (if N / 2 = 0 then (acc, (0 : Int)) else ([], 20)) := by
        by_cases hz : N = 0
        · rw [if_pos hz, if_pos (by omega)]
        · rw [if_neg hz, if_neg (by omega)]
      rw [e]
      refine ev1 (fun k => ?_) ih
      rw [P.lecternref03_Unbits.l2, w64 (by omega) (by omega), if_pos (by omega), hbit, Option.bind_some, if_pos (by omega), w64s a (by omega)]
    · rw [if_neg (by omega)]
      refine ev1 (f := fun _ => some ([], 20)) (fun k => ?_) (Ev.now _)
      rw [P.lecternref03_Unbits.l2, w64 (by omega) (by omega), if_pos (by omega), hbit, Option.bind_some, if_neg (by omega)]
theorem unb_l1 (bs acc : List Int) (wd n i : Nat) (hb : ∀ x ∈ bs, 0 ≤ x ∧ x < 256) (hl : bs.length ≤ 140737488355328) (hw : wd ≤ 64) (hin : i < n) (hfit : wd * (i + 1) ≤ 8 * bs.length) (hac : acc.length < 1048576) (hi : i ≤ 1048576) (r : List Int × Int) (hk : Ev (fun k => P.lecternref03_Unbits.l0 k bs wd n (acc ++ [((leVal bs / 2 ^ (wd * i) % 2 ^ wd : Nat) : Int)]) ((wd * (i + 1) : Nat) : Int) ((i + 1 : Nat) : Int)) r) : ∀ (d k : Nat), k + d = wd → Ev (fun f => P.lecternref03_Unbits.l1 f bs wd n acc ((wd * i + k : Nat) : Int) i ((leVal bs / 2 ^ (wd * i) % 2 ^ k : Nat) : Int) k) r
  | 0, k, h => by
    have hkw : k = wd := by omega
    subst hkw
    refine ev1 (fun f => ?_) hk
    rw [P.lecternref03_Unbits.l1, if_neg (by omega), if_pos (by omega), w64s i (by omega), Nat.mul_succ]
  | d + 1, k, h => by
    have ih := unb_l1 bs acc wd n i hb hl hw hin hfit hac hi r hk d (k + 1) (by omega)
    have hmul : wd * (i + 1) = wd * i + wd := Nat.mul_succ _ _
    have hbit := bit_eq bs hb hl (wd * i + k) (by omega)
    have hj := join (leVal bs) (wd * i) k 1
    have hlt : leVal bs / 2 ^ (wd * i) % 2 ^ k < 2 ^ k := Nat.mod_lt _ (Nat.pow_pos (by decide))
    have hb2 : leVal bs / 2 ^ (wd * i + k) % 2 < 2 := Nat.mod_lt _ (by decide)
    rw [show (2 : Nat) ^ 1 = 2 from rfl] at hj
    rw [hj] at ih
    refine ev1 (fun f => ?_) ih
    rw [P.lecternref03_Unbits.l1, if_pos (by omega), hbit, Option.bind_some, if_pos (wr_nn _ (by omega)), shl64 _ _ hb2 (by omega), or64 _ _ _ hlt hb2 (by omega), w64s _ (by omega), w64s k (by omega)]
    rfl
theorem unb_l0 (bs : List Int) (wd n : Nat) (hb : ∀ x ∈ bs, 0 ≤ x ∧ x < 256) (hl : bs.length ≤ 140737488355328) (hw : wd ≤ 64) (hn : n ≤ 1048576) (hfit : bs.length = (wd * n + 7) / 8) : ∀ (d i : Nat), i + d = n → Ev (fun k => P.lecternref03_Unbits.l0 k bs wd n (unbitsL (leVal bs) wd i) ((wd * i : Nat) : Int) i) (if leVal bs / 2 ^ (wd * n) = 0 then (unbitsL (leVal bs) wd n, 0) else ([], 20))
  | 0, i, h => by
    have hin : i = n := by omega
    subst hin
    have h2 := unb_l2 bs (unbitsL (leVal bs) wd i) hb hl (8 * bs.length - wd * i) (wd * i) (by omega)
    refine ev1 (fun k => ?_) h2
    rw [P.lecternref03_Unbits.l0, if_neg (by omega)]
  | d + 1, i, h => by
    have ih := unb_l0 bs wd n hb hl hw hn hfit d (i + 1) (by omega)
    have e : unbitsL (leVal bs) wd (i + 1) = unbitsL (leVal bs) wd i ++ [((leVal bs / 2 ^ (wd * i) % 2 ^ wd : Nat) : Int)] := by
      unfold unbitsL
      rw [List.range_succ, List.map_append]
      rfl
    rw [e] at ih
    have hm : wd * (i + 1) ≤ wd * n := Nat.mul_le_mul_left _ (by omega)
    have h1 := unb_l1 bs (unbitsL (leVal bs) wd i) wd n i hb hl hw (by omega) (by omega) (by unfold unbitsL; rw [List.length_map, List.length_range]; omega) (by omega) _ ih wd 0 (by omega)
    rw [Nat.pow_zero, Nat.mod_one, Nat.add_zero] at h1
    refine ev1 (fun k => ?_) h1
    rw [P.lecternref03_Unbits.l0, if_pos (by omega)]
    rfl
def unbR (bs : List Int) (wd n : Nat) : List Int × Int := match unbitsF bs wd n with
  | some l => (l, 0)
  | none => ([], 20)
theorem unb_ev (bs : List Int) (wd n : Nat) (hb : ∀ x ∈ bs, 0 ≤ x ∧ x < 256) (hl : bs.length ≤ 140737488355328) (hw : wd ≤ 64) (hn : n ≤ 1048576) : Ev (fun k => P.lecternref03_Unbits.f k bs wd n) (unbR bs wd n) := by
  have hm : wd * n ≤ 64 * n := Nat.mul_le_mul_right _ hw
  have e1 : wrap64 (Int.tdiv (wrap64 ((wrap64 ((wd : Int) * (n : Int))) + 7)) 8) = (((wd * n + 7) / 8 : Nat) : Int) := by
    rw [show ((wd : Int) * (n : Int)) = ((wd * n : Nat) : Int) from by push_cast; rfl, w64n _ (by omega), show (((wd * n : Nat) : Int) + 7) = ((wd * n + 7 : Nat) : Int) from by omega, w64n _ (by omega), td8, w64n _ (by omega)]
  have key : Ev (fun k => P.lecternref03_Unbits.j0 k bs wd n false) (unbR bs wd n) := by
    unfold unbR unbitsF
    by_cases hfit : bs.length = (wd * n + 7) / 8
    · have h0 := unb_l0 bs wd n hb hl hw hn hfit n 0 (by omega)
      rw [if_neg (by omega)]
      have e2 : (match (if leVal bs / 2 ^ (wd * n) ≠ 0 then none else some (unbitsL (leVal bs) wd n) : Option (List Int)) with
        | some l => (l, (0 : Int))
        | none => ([], 20)) = (if leVal bs / 2 ^ (wd * n) = 0 then (unbitsL (leVal bs) wd n, 0) else ([], 20)) := by
        by_cases hz : leVal bs / 2 ^ (wd * n) = 0
        · rw [if_neg (by omega), if_pos hz]
        · rw [if_pos hz, if_neg hz]
      rw [e2]
      refine ev1 (fun k => ?_) h0
      rw [P.lecternref03_Unbits.j0, if_neg (by decide), e1, if_pos (by omega)]
      rfl
    · rw [if_pos hfit]
      refine ev1 (f := fun _ => some ([], 20)) (fun k => ?_) (Ev.now _)
      rw [P.lecternref03_Unbits.j0, if_neg (by decide), e1, if_neg (by omega)]
  refine Ev.congr (fun k => ?_) key
  unfold P.lecternref03_Unbits.f
  rw [if_neg (by omega), if_neg (by omega), if_neg (by omega), decide_eq_false (by omega)]
theorem numGo_uvn (d : Nat) : ∀ (i u : Nat) (n : Int) (rest : List Int), i + d = 9 → u < 2 ^ (64 - 7 * i) → (1 ≤ u ∨ i = 0) → numGo ((uvn u ++ rest).take (10 - i)) i n = (n + (u : Int) * 2 ^ (7 * i), ((i + (uvn u).length : Nat) : Int)) := by
  induction d with
  | zero =>
    intro i u n rest hi hu h1
    have h9 : i = 9 := by omega
    subst h9
    have hu2 : u < 2 := hu
    rw [uvn_small (by omega)]
    show numGo [(u : Int)] 9 n = _
    rw [numGo, if_neg (by omega), if_pos (by omega), if_neg (by omega), Int.emod_eq_of_lt (by omega) (by omega)]
    rfl
  | succ d ih =>
    intro i u n rest hi hu h1
    obtain ⟨t, ht⟩ : ∃ t, 10 - i = t + 1 := ⟨9 - i, by omega⟩
    by_cases h7 : 127 < u
    · rw [uvn_big h7, ht, List.cons_append, List.take_succ_cons, numGo, if_neg (by omega), if_neg (by omega)]
      have e1 : ((u % 128 + 128 : Nat) : Int) % 128 = ((u % 128 : Nat) : Int) := by omega
      have hp : 2 ^ (64 - 7 * i) = 128 * 2 ^ (64 - 7 * (i + 1)) := by
        rw [show 64 - 7 * i = 7 + (64 - 7 * (i + 1)) from by omega, Nat.pow_add]
      have h2 := ih (i + 1) (u / 128) (n + ((u % 128 : Nat) : Int) * 2 ^ (7 * i)) rest (by omega) (by rw [Nat.div_lt_iff_lt_mul (by decide), Nat.mul_comm, ← hp]; exact hu) (.inl (by omega))
      rw [show 10 - (i + 1) = t from by omega] at h2
      rw [e1, h2]
      have e2 : (2 : Int) ^ (7 * (i + 1)) = 128 * 2 ^ (7 * i) := by rw [Nat.mul_add, Int.pow_add]; omega
      rw [e2, List.length_cons]
      congr 1
      · have e3 : (u : Int) = ((u % 128 : Nat) : Int) + ((u / 128 : Nat) : Int) * 128 := by omega
        conv => rhs; rw [e3]
        rw [Int.add_mul, Int.mul_assoc, Int.add_assoc]
      · omega
    · rw [uvn_small (by omega), ht, List.cons_append, List.take_succ_cons, numGo, if_neg (by omega), if_pos (by omega), if_neg (by omega), Int.emod_eq_of_lt (by omega) (by omega)]
      rfl
theorem numF_uv {u : Int} (h0 : 0 ≤ u) (h1 : u < 18446744073709551616) (rest : List Int) : numF (uv u ++ rest) = (u, ((uv u).length : Int)) := by
  have h := numGo_uvn 9 0 u.toNat 0 rest rfl (by show u.toNat < 18446744073709551616; omega) (.inr rfl)
  unfold numF uv
  rw [h]
  congr 1
  · simp; omega
  · simp
theorem leVal_of_leB (m : Nat) : ∀ V : Nat, V < 256 ^ m → leVal (leB m V) = V := by
  induction m with
  | zero => intro V h; rw [Nat.pow_zero] at h; show 0 = V; omega
  | succ m ih =>
    intro V h
    have e : leB (m + 1) V = ((V % 256 : Nat) : Int) :: leB m (V / 256) := by
      unfold leB
      rw [List.range_succ_eq_map, List.map_cons, List.map_map, Nat.pow_zero, Nat.div_one]
      congr 1
      apply List.map_congr_left
      intro j _
      simp only [Function.comp]
      rw [Nat.pow_succ, Nat.mul_comm, ← Nat.div_div_eq_div_mul]
    rw [e, leVal, ih (V / 256) (by rw [Nat.pow_succ] at h; omega)]
    omega
theorem packN_get (wd : Nat) : ∀ (l : List Int), (∀ x ∈ l, 0 ≤ x ∧ x.toNat < 2 ^ wd) → unbitsL (packN wd l) wd l.length = l := by
  intro l h
  unfold unbitsL
  induction l with
  | nil => rfl
  | cons x r ih =>
    have hx := h x (List.mem_cons_self ..)
    have ih := ih fun y hy => h y (List.mem_cons_of_mem _ hy)
    rw [List.length_cons, List.range_succ_eq_map, List.map_cons, List.map_map, packN]
    congr 1
    · rw [Nat.mul_zero, Nat.pow_zero, Nat.div_one, Nat.add_mul_mod_self_left, Nat.mod_eq_of_lt hx.2]
      omega
    · refine Eq.trans ?_ ih
      apply List.map_congr_left
      intro i _
      simp only [Function.comp]
      rw [Nat.mul_succ, Nat.add_comm (wd * i), Nat.pow_add, ← Nat.div_div_eq_div_mul, Nat.add_mul_div_left _ _ (Nat.pow_pos (by decide)), Nat.div_eq_of_lt hx.2, Nat.zero_add]
open Go.RowKit
theorem unz_zz (n : Int) : unz (zz n) = n := by unfold unz zz; split <;> split <;> omega
theorem rInt_back (pre rest : List Int) (x : Int) (h0 : -9223372036854775808 ≤ x) (h1 : x ≤ 9223372036854775807) : rInt ⟨pre ++ (uv (zz x) ++ rest), pre.length, 0⟩ = (x, ⟨pre ++ (uv (zz x) ++ rest), pre.length + (uv (zz x)).length, 0⟩) := by
  have hz := zz_range h0 h1
  unfold rInt rNum took
  simp only [List.drop_left]
  rw [if_neg (by simp), numF_uv hz.1 hz.2, if_neg (by omega)]
  simp only [unz_zz, Int.toNat_natCast]
theorem rBytes_back (pre xs rest : List Int) : rBytes ⟨pre ++ (xs ++ rest), pre.length, 0⟩ (xs.length : Int) = (xs, ⟨pre ++ (xs ++ rest), pre.length + xs.length, 0⟩) := by
  unfold rBytes
  simp only [List.drop_left]
  rw [if_neg (by simp), if_neg (by simp only [List.length_append]; omega)]
  simp only [Int.toNat_natCast, List.take_left]
end Go.Proofs.Ytimlgpfcgklddaa
namespace Go.Proofs.Ytimlgpfcgklddaa.P
open Go.RowKit Go.Shelf Go.Proofs.YtimlgpfcgklddaaW.PrintWords Go.Proofs.YtimlgpfcgklddaaW.PrintLast Go.Proofs.YtimlgpfcgklddaaW.PrintMore
set_option linter.unusedVariables false
set_option linter.unusedSimpArgs false
set_option maxRecDepth 100000 in
set_option maxHeartbeats 1000000 in
theorem takeRow_none (B1 : Nat) (A : Option Addr) (bs : List Int) (c n : Nat) (w : World) (hb : w.heap[B1]? = some (.cells #[.slice A bs.length c] 25 (0, 0))) (h : (Kd.int .u8).C w A bs.length bs) (hc : bs.length ≤ c) (hl : bs.length ≤ 140737488355328) (hr : ∀ x ∈ bs, 0 ≤ x ∧ x < 256) (hn : n ≤ 1048576) (hg : getF bs n = none) :
    Calls Try.prog 85 #[.int .i64 n, .pointer (some ⟨B1, 0, none⟩)] w fun e w' => e = .returned (.slice none 0 0) ∧ w'.heap[B1]? = some (.cells #[.slice none 0 0] 25 (0, 0)) ∧ w.grownBy w' (some B1) := by
  have HG : Aside0 (Calls Try.prog 86 #[.slice A bs.length c, .int .i64 n] w fun e w' => e = .returned (.tuple #[.slice none 0 0, .int .i64 0, .int .i64 20]) ∧ Below w.heap.size w w') := ⟨by
    refine (Get_calls A bs c n w h hc hl hr hn).mono ?_
    rintro e w' ⟨h1, h2⟩
    rcases h1 with ⟨_, rfl⟩ | ⟨l, st, v, h1, _⟩
    · exact ⟨rfl, h2⟩
    · rw [hg] at h1; cases h1⟩
  have HBK := Aside0.mk hb
  have hc0 := blk_cell hb 0
  clear h hr hg hb
  go_enter Try.func85, Try.ntmps85
  go_wp2_with (go_at_call 86; ((with_reducible refine HG.out.mono ?_)); rintro e w1 ⟨rfl, hb1⟩; have hx1 := blk_below HBK.out hb1; have hc1 := blk_cell hx1 0; have hf1 := blk_frozen hx1 0; have HB := Aside0.mk hb1; have HX := Aside0.mk hx1; clear hb1 hx1)
  go_ret
  exact ⟨rfl, blk_set HX.out 0 _, below_set HB.out B1 0 _⟩
set_option maxRecDepth 100000 in
set_option maxHeartbeats 1000000 in
theorem takeRow_some (B1 : Nat) (A : Option Addr) (bs : List Int) (c n : Nat) (w : World) (hb : w.heap[B1]? = some (.cells #[.slice A bs.length c] 25 (0, 0))) (h : (Kd.int .u8).C w A bs.length bs) (hc : bs.length ≤ c) (hl : bs.length ≤ 140737488355328) (hr : ∀ x ∈ bs, 0 ≤ x ∧ x < 256) (hn : n ≤ 1048576) (l : List Int) (st : RSt) (hg : getF bs n = some (l, st)) (hle : st.at' ≤ bs.length) :
    Calls Try.prog 85 #[.int .i64 n, .pointer (some ⟨B1, 0, none⟩)] w fun e w' => ∃ v, e = .returned v ∧ Lx .i64 2 w' w.heap.size v l ∧ w'.heap[B1]? = some (.cells #[.slice (if c = st.at' then A else Option.map (fun x => x.add st.at') A) (bs.length - st.at') (c - st.at')] 25 (0, 0)) ∧ w.grownBy w' (some B1) := by
  have HG : Aside0 (Calls Try.prog 86 #[.slice A bs.length c, .int .i64 n] w fun e w' => ∃ v, e = .returned (.tuple #[v, .int .i64 (st.at' : Int), .int .i64 0]) ∧ Lx .i64 2 w' w.heap.size v l ∧ Below w.heap.size w w') := ⟨by
    refine (Get_calls A bs c n w h hc hl hr hn).mono ?_
    rintro e w' ⟨h1, h2⟩
    rcases h1 with ⟨h1, _⟩ | ⟨l', st', v, h1, rfl, h3⟩
    · rw [hg] at h1; cases h1
    · rw [hg] at h1
      injection h1 with h1
      injection h1 with e1 e2
      subst e1; subst e2
      exact ⟨v, rfl, h3, h2⟩⟩
  have HBK := Aside0.mk hb
  have hc0 := blk_cell hb 0
  obtain ⟨a, ha⟩ : ∃ a, st.at' = a := ⟨_, rfl⟩
  rw [ha] at hle HG ⊢
  clear h hr hg hb ha
  go_enter Try.func85, Try.ntmps85
  go_wp2_with (go_at_call 86; ((with_reducible refine HG.out.mono ?_)); rintro e w1 ⟨v1, rfl, ho1, hb1⟩; have hx1 := blk_below HBK.out hb1; have hc1 := blk_cell hx1 0; have hf1 := blk_frozen hx1 0; have HB := Aside0.mk hb1; have HX := Aside0.mk hx1; have HO := Aside0.mk ho1; clear hb1 hx1 ho1)
  all_goals (
    have hlt := blk_lt HBK.out
    go_ret
    exact ⟨_, rfl, Lx.far (p := ⟨B1, 0, none⟩) HO.out (fun j hj => by have := Lax.base_le HO.out j hj; show j ≠ B1; omega) _, blk_set HX.out 0 _, below_set HB.out B1 0 _⟩)
end Go.Proofs.Ytimlgpfcgklddaa.P
namespace Go.Proofs.Ytimlgpfcgklddaa
open Go.RowKit Go.Proofs.YtimlgpfcgklddaaW.PrintWords
def pxR (w : World) (base : Nat) (p : P.S58) (cs : List Value) : Prop := ∃ v1, cs = [.int .i64 p.f0, v1] ∧ Lx .i64 3 w base v1 p.f1
/-- A row of posts of one's own. -/
def Px (w : World) (base : Nat) (v : Value) (ps : List P.S58) : Prop := ∃ cs, Lax w base 58 2 v ps.length cs ∧ Reps (pxR w base) 2 ps cs
namespace Px
section
variable {w w1 : World} {base : Nat} {v : Value} {ps : List P.S58}
theorem nil (w : World) (base : Nat) : Px w base (.slice none 0 0) [] := ⟨[], Lax.nil w base 58 2, Reps.none _ _⟩
theorem below (h : Px w base v ps) (hb : Below w.heap.size w w1) : Px w1 base v ps := by
  obtain ⟨cs, h1, h2⟩ := h
  exact ⟨cs, h1.below hb, h2.imp_ fun p c ⟨v1, e, h⟩ => ⟨v1, e, Lx.below h hb⟩⟩
theorem lower {base' : Nat} (h : Px w base v ps) (hb : base' ≤ base) : Px w base' v ps := by
  obtain ⟨cs, h1, h2⟩ := h
  exact ⟨cs, h1.lower hb, h2.imp_ fun p c ⟨v1, e, h⟩ => ⟨v1, e, Lx.lower h hb⟩⟩
theorem grown (h : Px w base v ps) {row : Option Nat} (hg : w.grownBy w1 row) (hne : ∀ k cells, row = some k → w.heap[k]? = some (.cells cells 58 (0, 0)) → False) (hne3 : ∀ k cells, row = some k → w.heap[k]? = some (.cells cells 3 (0, 0)) → False) : Px w1 base v ps := by
  obtain ⟨cs, h1, h2⟩ := h
  refine ⟨cs, h1.grown hg fun k hk e => ?_, h2.imp_ fun p c ⟨v1, e, h⟩ => ⟨v1, e, Lax.grown h hg fun k hk e => ?_⟩⟩
  · obtain ⟨cells, hc⟩ := h1.typed k hk
    exact hne k cells e.symm hc
  · obtain ⟨cells, hc⟩ := Lax.typed h k hk
    exact hne3 k cells e.symm hc
theorem block (h : Px w base v ps) : ∀ k, v.ownBlock = some k → base ≤ k ∧ k < w.heap.size ∧ ∃ cells, w.heap[k]? = some (.cells cells 58 (0, 0)) := by
  obtain ⟨cs, h1, h2⟩ := h
  exact fun k hk => ⟨h1.base_le k hk, h1.lt k hk, h1.typed k hk⟩
theorem reads (h : Px w base v ps) : ∃ A c, v = .slice A ps.length c ∧ ps.length ≤ c ∧ Kd.C P.k58 w A ps.length ps := by
  obtain ⟨cs, h1, h2⟩ := h
  have hlen := h1.1
  rcases h1.2 with ⟨rfl, hn⟩ | ⟨g, cap, cur, rfl, hb, hg, hn, hc, hs, ht⟩
  · have : ps = [] := List.eq_nil_of_length_eq_zero hn
    subst this
    exact ⟨none, 0, rfl, Nat.le_refl _, Kd.C_nil _ _⟩
  · refine ⟨_, _, rfl, hn, ⟨rfl, h1.max, fun hp => ⟨_, rfl, fun j p hj => ?_⟩⟩⟩
    obtain ⟨v1, e1, hx⟩ := h2.2 j p hj
    obtain ⟨A1, c1, rfl, hl1, hC1⟩ := hx.reads
    refine ⟨[.int .i64 p.f0, .slice A1 p.f1.length c1], rfl, P.k58_mk w p hl1 hC1, fun i u hu => ?_⟩
    rw [← e1] at hu
    rw [List.getElem?_take] at hu
    split at hu
    · rw [List.getElem?_drop] at hu
      exact h1.cells (g := g) rfl (j * 2 + i) u hu
    · cases hu
end
section
variable {Pg : Program} {ops : Array Oper} {rest : List Oper} {o : Oper} {a : Act} {Q : Exit → Act → World → Prop}
theorem run_row {W : World} (base : Nat) (t ty : TypeId)
    (ht : Pg.underlying t = some (.slice 58)) (hinfo : (Pg.info? 58).map (fun i => (i.zero, i.size, i.bytes)) = some (some (.agg #[(.int .i64 0), (.slice none 0 0)]), 2, 32))
    (v : Value) (xs ys : List P.S58) (A : Option Addr) (m c : Nat) (cs' : List Value)
    (HO : Px W base v xs) (hm : ys.length = m) (hreps : Reps (pxR W base) 2 ys cs') (hcells : 0 < m → ∃ ad, A = some ad ∧ ∀ j u, cs'[j]? = some u → W.cell? (ad.add j) = some u) (hbase : base ≤ W.heap.size) (hl : (xs.length + m) * 32 ≤ 140737488355328) :
    ∃ v1 w1, (Builtin.append_ #[t, t] ty #[v, .slice A m c]).run Pg W = .ok v1 w1 ∧ Px w1 base v1 (xs ++ ys) ∧ W.grownBy w1 v.ownBlock ∧ (v1.ownBlock = v.ownBlock ∨ v1.ownBlock = some W.heap.size) := by
  obtain ⟨i0, hi, hzz⟩ := Option.map_eq_some_iff.1 hinfo
  simp only [Prod.mk.injEq] at hzz
  obtain ⟨hz0, hz1, hz2⟩ := hzz
  obtain ⟨cs, HO', hr⟩ := HO
  rcases A with _ | ad
  · have h0 : m = 0 := by
      rcases Nat.eq_zero_or_pos m with h0 | h0
      · exact h0
      · obtain ⟨ad, h, _⟩ := hcells h0
        cases h
    subst h0
    obtain rfl : ys = [] := List.eq_nil_of_length_eq_zero hm
    refine ⟨v, W, ?_, by simpa using ⟨cs, HO', hr⟩, World.grownBy.refl W _, .inl rfl⟩
    rcases HO'.2 with ⟨rfl, hn⟩ | ⟨g, cap, cur, rfl, _, _, hnc, _⟩
    · simp [Builtin.append_, run_underlying ht, sizeOf, typeInfo, hi, Builtin.lenOf, Builtin.firstCells]
    · simp [Builtin.append_, run_underlying ht, sizeOf, typeInfo, hi, Builtin.lenOf, Builtin.firstCells, hnc, storeCells]
  · have hc' : ∀ j u, cs'[j]? = some u → W.cell? (ad.add j) = some u := by
      intro j u hu
      have hj := (List.getElem?_eq_some_iff.1 hu).1
      have := hreps.1
      obtain ⟨ad', e, h⟩ := hcells (by omega)
      injection e with e
      subst e
      exact h j u hu
    have hone : ∀ u ∈ cs', u.oneCell' = true := by
      intro u hu
      obtain ⟨j, hj, rfl⟩ := List.mem_iff_getElem.1 hu
      have hcl := hreps.1
      have hj2 : j / 2 < ys.length := by omega
      obtain ⟨v1, e1, hx⟩ := hreps.2 (j / 2) _ (List.getElem?_eq_getElem hj2)
      have e2 : (cs'.drop (j / 2 * 2)).take 2 = [cs'[j / 2 * 2]'(by omega), cs'[j / 2 * 2 + 1]'(by omega)] := by
        apply List.ext_getElem?
        intro k
        rw [List.getElem?_take, List.getElem?_drop]
        match k with
        | 0 => rw [if_pos (by decide), Nat.add_zero, List.getElem?_eq_getElem (by omega)]; rfl
        | 1 => rw [if_pos (by decide), List.getElem?_eq_getElem (by omega)]; rfl
        | k + 2 => rw [if_neg (by omega)]; rfl
      rw [e2] at e1
      injection e1 with e3 e4
      injection e4 with e4 _
      rcases Nat.mod_two_eq_zero_or_one j with hm | hm
      · have : j / 2 * 2 = j := by omega
        simp only [this] at e3
        rw [e3]; rfl
      · have : j / 2 * 2 + 1 = j := by omega
        simp only [this] at e4
        rw [e4]
        obtain ⟨A', c', rfl, _⟩ := hx.reads
        rfl
    obtain ⟨v1, w1, hrun, h2, h3, h5⟩ := Lax.run_append (P := Pg) W base t ty 58 i0 _ 2 32 ht hi hz0 hz1 hz2 rfl (by omega) v xs.length cs HO' ad m c cs' (by rw [hreps.1, hm]) hc' hone (by simp only [maxLen]; omega) hl hbase
    have hne : ∀ {p c}, pxR W base p c → pxR w1 base p c := by
      rintro p c ⟨u, e, hx⟩
      refine ⟨u, e, Lax.grown hx h3 fun k hk e => ?_⟩
      obtain ⟨c1, h1⟩ := Lax.typed hx k hk
      obtain ⟨c2, h2⟩ := HO'.typed k e.symm
      rw [h1] at h2
      injection h2 with h2
      injection h2 with _ h2
      exact absurd h2 (by decide)
    refine ⟨v1, w1, hrun, ⟨cs ++ cs', by rw [List.length_append, hm]; exact h2, ?_⟩, h3, h5⟩
    refine ⟨by rw [List.length_append, List.length_append, hr.1, hreps.1, Nat.add_mul], fun j p hj => ?_⟩
    rcases Nat.lt_or_ge j xs.length with hlt | hge
    · rw [List.getElem?_append_left hlt] at hj
      have h6 := hr.2 j p hj
      have h7 : j * 2 + 2 ≤ cs.length := by rw [hr.1]; omega
      rw [List.drop_append_of_le_length (by omega), List.take_append_of_le_length (by rw [List.length_drop]; omega)]
      exact hne h6
    · rw [List.getElem?_append_right hge] at hj
      have h6 := hreps.2 _ p hj
      rw [List.drop_append, List.drop_eq_nil_of_le (by rw [hr.1]; omega), List.nil_append, hr.1, ← Nat.sub_mul]
      exact hne h6
/-- append(v, ys...), ys of one's own; behind 'at_builtin'. -/
theorem append_row {w0 W : World} (base : Nat) (hgd : o.guard = none) (s x : Operand) (t : TypeId)
    (ho : o.op = .call { callee := .builtin .append, args := #[s, x], argTypes := #[t, t] })
    (ht : Pg.underlying t = some (.slice 58)) (hinfo : (Pg.info? 58).map (fun i => (i.zero, i.size, i.bytes)) = some (some (.agg #[(.int .i64 0), (.slice none 0 0)]), 2, 32))
    (v v' : Value) (xs ys : List P.S58) (hs : a.eval s = v) (hx : a.eval x = v')
    (HO : Px W base v xs) (HR : Px W base v' ys) (HB : Below base w0 W) (hbase : base ≤ W.heap.size) (hl : (xs.length + ys.length) * 32 ≤ 140737488355328)
    (h : ∀ v1 w1, Px w1 base v1 (xs ++ ys) → Below base w0 w1 → W.grownBy w1 v.ownBlock → (v1.ownBlock = v.ownBlock ∨ ∃ b, v1.ownBlock = some b ∧ W.heap.size ≤ b) → wpList Pg ops Q rest (a.put o.dst v1) w1) :
    wpList Pg ops Q (o :: rest) a W := by
  obtain ⟨cs', h1, h2⟩ := HR
  obtain ⟨A, c, e⟩ : ∃ A c, v' = .slice A ys.length c := by obtain ⟨A, c, e, _⟩ := Lax.slice h1; exact ⟨A, c, e⟩
  subst e
  obtain ⟨v1, w1, hr, hown, hg, hat⟩ := run_row (Pg := Pg) base t o.type ht hinfo v xs ys A ys.length c cs' HO rfl h2 (fun hp => by
    rcases h1.2 with ⟨he, hn⟩ | ⟨g, cap, cur, he, _⟩
    · omega
    · injection he with he _ _
      subst he
      exact ⟨_, rfl, fun j u hu => h1.cells (g := g) rfl j u hu⟩) hbase hl
  refine wpList_plain hgd fun K hK => ?_
  unfold Oper.wp execOp
  simp only [ho, resolve, invoke, builtin, Sem.run_bind, Sem.run_pure, Result.andThen_ok, List.map_toArray, List.map_cons, List.map_nil, hs, hx, hr]
  refine hK _ _ (h v1 w1 hown (HB.grown hg hbase (fun k hk => (block HO k hk).1)) hg ?_)
  rcases hat with hat | hat
  · exact .inl hat
  · exact .inr ⟨_, hat, Nat.le_refl _⟩
/-- append(v, y); behind 'at_builtin'; the goal's world is 'W.alloc' of the variadic's box. -/
theorem append_one {w0 W : World} (base : Nat) (hgd : o.guard = none) (s x : Operand) (t : TypeId)
    (ho : o.op = .call { callee := .builtin .append, args := #[s, x], argTypes := #[t, t] })
    (ht : Pg.underlying t = some (.slice 58)) (hinfo : (Pg.info? 58).map (fun i => (i.zero, i.size, i.bytes)) = some (some (.agg #[(.int .i64 0), (.slice none 0 0)]), 2, 32))
    (v : Value) (xs : List P.S58) (y : P.S58) (u : Value) (gN : Nat) (hN : gN = W.heap.size) (hs : a.eval s = v) (hx : a.eval x = .slice (some ⟨gN, 0, none⟩) 1 1)
    (HO : Px W base v xs) (HY : Lx .i64 3 W base u y.f1) (HB : Below base w0 W) (hbase : base ≤ W.heap.size) (hl : (xs.length + 1) * 32 ≤ 140737488355328)
    (h : ∀ v1 w1, Px w1 base v1 (xs ++ [y]) → Below base w0 w1 → W.grownBy w1 v.ownBlock → (v1.ownBlock = v.ownBlock ∨ ∃ b, v1.ownBlock = some b ∧ W.heap.size ≤ b) → wpList Pg ops Q rest (a.put o.dst v1) w1) :
    wpList Pg ops Q (o :: rest) a (W.alloc (.cells #[.int .i64 y.f0, u] 58)) := by
  subst hN
  have hl0 : xs.length ≤ 9223372036854775807 := by omega
  have hreps : Reps (pxR (W.alloc (.cells #[.int .i64 y.f0, u] 58)) base) 2 [y] [.int .i64 y.f0, u] := ⟨rfl, fun j p hj => by
    match j with
    | 0 => simp only [List.getElem?_cons_zero, Option.some.injEq] at hj; subst hj; exact ⟨u, rfl, HY.alloc _⟩
    | j + 1 => simp at hj⟩
  have hO : Px (W.alloc (.cells #[.int .i64 y.f0, u] 58)) base v xs := HO.below (below_alloc (Below.refl _ _) _)
  obtain ⟨v1, w1, hr, hown, hg, hat⟩ := run_row (Pg := Pg) base t o.type ht hinfo v xs [y] (some ⟨W.heap.size, 0, none⟩) 1 1 _ hO rfl hreps (fun _ => ⟨_, rfl, fun j u' hu => by
    rw [add_plain]
    have hb := blk_cell (blk_new W (.cells #[.int .i64 y.f0, u] 58)) j
    rw [hb]
    simpa using hu⟩) (by simp; omega) (by simpa using hl)
  refine wpList_plain hgd fun K hK => ?_
  unfold Oper.wp execOp
  simp only [ho, resolve, invoke, builtin, Sem.run_bind, Sem.run_pure, Result.andThen_ok, List.map_toArray, List.map_cons, List.map_nil, hs, hx, hr]
  refine hK _ _ (h v1 w1 hown ((HB.alloc hbase _).grown hg (by simp; omega) (fun k hk => (block HO k hk).1)) (World.grownBy.trans (World.grownBy_alloc W _ _) hg) ?_)
  rcases hat with hat | hat
  · exact .inl hat
  · exact .inr ⟨_, hat, by simp⟩
end
end Px
end Go.Proofs.Ytimlgpfcgklddaa
namespace Go.Proofs.Ytimlgpfcgklddaa
/-- Running sums. -/
def sums : Int → List Int → List Int
  | _, [] => []
  | a, x :: r => (a + x) :: sums (a + x) r
theorem sums_length : ∀ (l : List Int) (a : Int), (sums a l).length = l.length
  | [], _ => rfl
  | x :: r, a => by rw [sums, List.length_cons, List.length_cons, sums_length r]
theorem sums_snoc : ∀ (l : List Int) (a x : Int), sums a (l ++ [x]) = sums a l ++ [a + l.sum + x]
  | [], a, x => by simp [sums]
  | y :: r, a, x => by
    rw [List.cons_append, sums, sums, sums_snoc r, List.cons_append, List.sum_cons]
    congr 3
    omega
/-- How many places the counts ask. -/
def allGo : Int → List Int → Option Int
  | a, [] => some a
  | a, f :: r => if f < 0 ∨ 1048576 - a ≤ f then none else allGo (a + (f + 1)) r
/-- Does a number leave the places' range? -/
def offB (x : Int) : Bool := decide (x < 0 ∨ 1048576 < x)
def pGo : List Int → List Int → List Int → Int → List P.S58 → Option (List P.S58 × Int)
  | [], _, _, last, out => some (out, last)
  | d :: ds, fs, ps, last, out =>
    if d < 0 ∨ 16384 ≤ d then none else
    if (ps.take (fs.headD 0 + 1).toNat).any offB = true then none else
    pGo ds fs.tail (ps.drop (fs.headD 0 + 1).toNat) (last + 1 + d) (out ++ [⟨last + 1 + d, sums 0 (ps.take (fs.headD 0 + 1).toNat)⟩])
/-- What a take hands back; what it leaves. -/
def rowOf (bs : List Int) (n : Nat) : List Int := match getF bs n with | none => [] | some (l, _) => l
def restOf (bs : List Int) (n : Nat) : List Int := match getF bs n with | none => [] | some (_, s) => bs.drop s.at'
def postsF (bs : List Int) (ahead last : Int) (n : Nat) : List P.S58 × Bool :=
  if (rowOf bs n).length ≠ n ∨ (rowOf (restOf bs n) n).length ≠ n then ([], false) else
  match allGo 0 (rowOf (restOf bs n) n) with
  | none => ([], false)
  | some all =>
  if ((rowOf (restOf (restOf bs n) n) all.toNat).length : Int) ≠ all ∨ restOf (restOf (restOf bs n) n) all.toNat ≠ [] then ([], false) else
  match pGo (rowOf bs n) (rowOf (restOf bs n) n) (rowOf (restOf (restOf bs n) n) all.toNat) ahead [] with
  | none => ([], false)
  | some (out, l) => (out, l == last)
def sumF (l : List Int) : Int := (l.map (· + 1)).sum
theorem allGo_sum : ∀ (l : List Int) (a b : Int), allGo a l = some b → 0 ≤ a → a ≤ 1048576 → b = a + sumF l ∧ b ≤ 1048576 ∧ ∀ f ∈ l, 0 ≤ f ∧ f < 1048576
  | [], a, b, h, h0, h1 => by
    rw [allGo] at h
    injection h with h
    subst h
    refine ⟨by simp [sumF], h1, fun f hf => by cases hf⟩
  | f :: r, a, b, h, h0, h1 => by
    rw [allGo] at h
    split at h
    · cases h
    · rename_i hc
      have ih := allGo_sum r _ _ h (by omega) (by omega)
      refine ⟨?_, ih.2.1, fun g hg => ?_⟩
      · rw [ih.1]
        simp only [sumF, List.map_cons, List.sum_cons]
        omega
      · rcases List.mem_cons.1 hg with rfl | hg
        · omega
        · exact ih.2.2 g hg
theorem getBlk_facts {st st' : RSt} {k : Nat} {xs : List Int} (h : getBlk st k = some (xs, st')) (hok : st.ok) : xs.length = k ∧ st'.ok ∧ st'.bs = st.bs := by
  unfold getBlk at h
  dsimp only at h
  split at h
  · cases h
  · split at h
    · cases h
    · split at h
      · cases h
      · injection h with h
        injection h with h1 h2
        subst h1; subst h2
        refine ⟨by rw [List.length_map]; simp [unbitsL], rBytes_ok (rBytes_ok (rInt_ok hok) 1) _, ?_⟩
        rw [rBytes_bs, rBytes_bs, rInt_bs]
theorem getGo_facts : ∀ (m : Nat) {st st' : RSt} {n : Nat} {l xs : List Int}, getGo m st n l = some (xs, st') → st.ok → n ≤ m * 128 → xs.length = l.length + n ∧ st'.ok ∧ st'.bs = st.bs
  | 0, st, st', n, l, xs, h, hok, hn => by
    rw [getGo] at h
    injection h with h
    injection h with h1 h2
    subst h1; subst h2
    exact ⟨by omega, hok, rfl⟩
  | m + 1, st, st', n, l, xs, h, hok, hn => by
    rw [getGo] at h
    split at h
    · cases h
    · rename_i ys s1 he
      have h1 := getBlk_facts he hok
      have ih := getGo_facts m h h1.2.1 (by omega)
      rw [ih.2.2, h1.2.2]
      refine ⟨?_, ih.2.1, rfl⟩
      rw [ih.1, List.length_append, h1.1]
      omega
theorem getF_facts {bs : List Int} {n : Nat} {xs : List Int} {st : RSt} (h : getF bs n = some (xs, st)) (hl : bs.length ≤ 140737488355328) (hr : ∀ x ∈ bs, 0 ≤ x ∧ x < 256) : xs.length = n ∧ st.at' ≤ bs.length := by
  have := getGo_facts _ h ⟨by simp, hl, hr⟩ (by omega)
  refine ⟨by simpa using this.1, ?_⟩
  have h1 := this.2.1.le
  rw [this.2.2] at h1
  exact h1
theorem restOf_ok {bs : List Int} (n : Nat) (hl : bs.length ≤ 140737488355328) (hr : ∀ x ∈ bs, 0 ≤ x ∧ x < 256) : (restOf bs n).length ≤ 140737488355328 ∧ ∀ x ∈ restOf bs n, 0 ≤ x ∧ x < 256 := by
  unfold restOf
  split
  · exact ⟨by simp, fun x hx => by cases hx⟩
  · refine ⟨by rw [List.length_drop]; omega, fun x hx => hr x (List.mem_of_mem_drop hx)⟩
end Go.Proofs.Ytimlgpfcgklddaa
namespace Go.Proofs.Ytimlgpfcgklddaa.P
open Go.RowKit Go.Shelf Go.Proofs.YtimlgpfcgklddaaW.PrintWords Go.Proofs.YtimlgpfcgklddaaW.PrintLast Go.Proofs.YtimlgpfcgklddaaW.PrintMore
set_option linter.unusedVariables false
set_option linter.unusedSimpArgs false
/-- A take, whatever it finds. -/
theorem takeRow_calls (w0 : World) (B1 : Nat) (A : Option Addr) (bs : List Int) (c n : Nat) (w : World) (hb : w.heap[B1]? = some (.cells #[.slice A bs.length c] 25 (0, 0))) (h0 : (Kd.int .u8).C w0 A bs.length bs) (hB : Below w0.heap.size w0 w) (hc : bs.length ≤ c) (hl : bs.length ≤ 140737488355328) (hr : ∀ x ∈ bs, 0 ≤ x ∧ x < 256) (hn : n ≤ 1048576) :
    Calls Try.prog 85 #[.int .i64 n, .pointer (some ⟨B1, 0, none⟩)] w fun e w' => ∃ v A' c', e = .returned v ∧ Lx .i64 2 w' w.heap.size v (rowOf bs n) ∧ w'.heap[B1]? = some (.cells #[.slice A' (restOf bs n).length c'] 25 (0, 0)) ∧ (restOf bs n).length ≤ c' ∧ (Kd.int .u8).C w0 A' (restOf bs n).length (restOf bs n) ∧ w.grownBy w' (some B1) := by
  have h := Kd.C_below h0 hB
  cases hg : getF bs n with
  | none =>
    refine (takeRow_none B1 A bs c n w hb h hc hl hr hn hg).mono ?_
    rintro e w' ⟨rfl, h1, h2⟩
    have e1 : rowOf bs n = [] := by unfold rowOf; rw [hg]
    have e2 : restOf bs n = [] := by unfold restOf; rw [hg]
    rw [e1, e2]
    exact ⟨_, _, _, rfl, Lx.nil _ _ _ _, h1, Nat.le_refl _, Kd.C_nil _ _, h2⟩
  | some r =>
    obtain ⟨l, st⟩ := r
    have hf := getF_facts hg hl hr
    refine (takeRow_some B1 A bs c n w hb h hc hl hr hn l st hg hf.2).mono ?_
    rintro e w' ⟨v, rfl, h1, h2, h3⟩
    have e1 : rowOf bs n = l := by unfold rowOf; rw [hg]
    have e2 : restOf bs n = bs.drop st.at' := by unfold restOf; rw [hg]
    rw [e1, e2]
    refine ⟨v, (if c = st.at' then A else Option.map (fun x => x.add st.at') A), c - st.at', rfl, h1, by rw [List.length_drop]; exact h2, by rw [List.length_drop]; omega, C_from h0 hc _ hf.2, h3⟩
set_option maxHeartbeats 1000000 in
theorem ClipN_calls (A : Option Addr) (n c : Nat) (w : World) (hn : n ≤ c) (hm : n ≤ 9223372036854775807) :
    Calls Try.prog 87 #[.slice A n c] w fun e w' => e = .returned (.slice A n n) ∧ w = w' := by
  go_enter Try.func87, Try.ntmps87
  go_wp2
  go_ret
  exact ⟨rfl, rfl⟩
end Go.Proofs.Ytimlgpfcgklddaa.P
