/- Walks: the iterator over the digits of an integer. -/
import Derived.Test.YtpcpgmgpkegjlaaGB6
namespace Go.Proofs.Ytpcpgmgpkegjlaa
open Go.RowKit Go.Shelf Go.BigFrame
attribute [local go_sem] Oper.semAt_some
/-- What is left of an integer, and its digits. -/
def xsI (h : Int) (x : Int) : Nat → Int
  | 0 => x
  | k + 1 => (xsI h x k + h) / (2 * h)
def digI (h : Int) (parts : Nat) (x : Int) (k : Nat) : Int := if k + 1 < parts then (xsI h x k + h) % (2 * h) - h else xsI h x k
theorem xsI_bound {h x : Int} (h1 : 2 ≤ h) (h2 : h ≤ 1073741824) (hx : -2147483648 ≤ x ∧ x ≤ 2147483648) (k : Nat) : -2147483648 ≤ xsI h x k ∧ xsI h x k ≤ 2147483648 := by
  induction k with
  | zero => exact hx
  | succ k ih =>
    obtain ⟨i1, i2⟩ := ih
    unfold xsI
    have hp : (0 : Int) < 2 * h := by omega
    refine ⟨?_, ?_⟩
    · rw [Int.le_ediv_iff_mul_le hp]
      have : (-2147483648 : Int) * (2 * h) ≤ -2147483648 * 4 := by omega
      omega
    · have := Int.ediv_le_ediv hp (show xsI h x k + h ≤ 2147483648 * (2 * h) by omega)
      rwa [Int.mul_ediv_cancel _ (by omega)] at this
theorem pow_split {width : Int} (h1 : 2 ≤ width) (h2 : width ≤ 31) : (2 : Int) ^ width.toNat = 2 * 2 ^ (width - 1).toNat := by
  have : width.toNat = (width - 1).toNat + 1 := by omega
  rw [this, Int.pow_succ]; omega
theorem nz64 : ((2 ^ IntKind.i64.bits : Nat) : Int) ≠ 0 := by intro he; exact absurd (Int.natCast_eq_zero.1 he) (Nat.pos_iff_ne_zero.1 (Nat.two_pow_pos _))
theorem bits_and_low (a : Int) (i : Nat) (hi : i ≤ 62) : bits .and .i64 a ((2 : Int) ^ i - 1) = a % 2 ^ i := by
  have hpos : 0 < 2 ^ i := Nat.two_pow_pos i
  have hlt : 2 ^ i ≤ 2 ^ 62 := Nat.pow_le_pow_right (by decide) hi
  have hc : ((2 : Int) ^ i - 1) = ((2 ^ i - 1 : Nat) : Int) := by rw [Int.natCast_sub hpos]; simp
  have hd : (2 : Int) ^ i ∣ 2 ^ 64 := by
    refine ⟨2 ^ (64 - i), ?_⟩
    rw [← Int.pow_add]; congr 1; omega
  have hcast : ((2 ^ i : Nat) : Int) = 2 ^ i := by push_cast; rfl
  rw [hc]
  simp only [bits, BitVec.ofInt_natCast, BitVec.toNat_and, BitVec.toNat_ofNat, BitVec.toNat_ofInt]
  have e1 : (2 ^ i - 1) % 2 ^ IntKind.i64.bits = 2 ^ i - 1 := Nat.mod_eq_of_lt (by simp only [IntKind.bits]; omega)
  rw [e1, Nat.and_two_pow_sub_one_eq_mod]
  have e2 : (((a % ((2 ^ IntKind.i64.bits : Nat) : Int)).toNat % 2 ^ i : Nat) : Int) = a % 2 ^ i := by
    rw [Int.natCast_emod, Int.toNat_of_nonneg (Int.emod_nonneg _ (nz64)), hcast]
    exact Int.emod_emod_of_dvd _ (by simpa [IntKind.bits] using hd)
  rw [e2]
  have n1 := Int.emod_nonneg a (show (2 : Int) ^ i ≠ 0 by rw [← hcast]; omega)
  have n2 := Int.emod_lt_of_pos a (show (0 : Int) < 2 ^ i by rw [← hcast]; omega)
  have n3 : (2 : Int) ^ i ≤ 4611686018427387904 := by rw [← hcast, show (4611686018427387904 : Int) = ((2 ^ 62 : Nat) : Int) from rfl]; exact Int.ofNat_le.2 hlt
  exact IntWalk.i64_in _ (by omega)
theorem set_block1 {W : World} {X : Nat} {u : Value} {t : TypeId} {fz : Nat × Nat} (h : W.heap[X]? = some (.cells #[u] t fz)) (v : Value) : (W.setCell ⟨X, 0, none⟩ v).heap[X]? = some (.cells #[v] t fz) := by
  simp [World.setCell, Array.getElem?_modify, h]
/-- A box and what else the iterator reads. -/
def DigKeep (cb kb X : Nat) (b : Nat) : Prop := b = cb ∨ b = kb ∨ b = X
theorem IntWalk_i64 (x : Int) (h : -9223372036854775808 ≤ x ∧ x ≤ 9223372036854775807) : IntKind.i64.wrap x = x := IntWalk.i64_in x h
set_option maxRecDepth 100000 in
set_option maxHeartbeats 4000000 in
theorem digits1_in (n : Nat) (hn : 1 ≤ n) (l cb kb X p : Nat) (width : Int) (hw1 : 2 ≤ width) (hw2 : width ≤ 31) (x : Int) (hx : -2147483648 ≤ x ∧ x ≤ 2147483648)
    (h : Int) (hh : h = 2 ^ (width - 1).toNat) (parts : Nat) (hparts : (parts : Int) = partsI width)
    (J : Nat → World → Prop)
    (hJd : ∀ k W n, J k W → J k (W.drewN n)) (hJx : ∀ k W v, J k W → J k (W.setCell ⟨X, 0, none⟩ v))
    (hY : ∀ k W, J k W → k < parts → YieldAt Fence.wide (n - 1) Try.prog l #[.int .i64 (k : Int), .int .i64 (digI h parts x k)] W fun e W' =>
      e = .returned (.bool true) ∧ J (k + 1) W' ∧ KeepP (DigKeep cb kb X) W W')
    (W : World) (hX1 : X ≠ cb) (hX2 : X ≠ kb)
    (k0 : W.heap[cb]? = some (.cells #[.pointer (some ⟨kb, 0, none⟩)] 52)) (k1 : W.heap[X]? = some (.cells #[.int .i64 x] 2)) (kc : CutterAt W kb p width)
    (h0 : J 0 W) :
    CallsIn Fence.wide n Try.prog 52 #[.func (.yield l) #[] #[], .pointer (some ⟨cb, 0, none⟩), .pointer (some ⟨X, 0, none⟩)] W fun e W' => (∃ v, e = .returned v) ∧ J parts W' := by
  have hpb := parts_bound hw1 hw2
  rw [← hparts] at hpb
  have hhb := pow_bound hw1 hw2
  rw [← hh] at hhb
  have HM := Lib.hid (pow_split hw1 hw2)
  rw [← hh] at HM
  have HY := Lib.hid hY
  have HJD := Lib.hid hJd
  have HJX := Lib.hid hJx
  have HP := Lib.hid hparts
  clear hY hJd hJx
  unfold CutterAt at kc
  rw [← hparts] at kc
  obtain ⟨d0, d1, d2⟩ := three_cells kc
  have c0 : W.cell? ⟨cb, 0, none⟩ = some (.pointer (some ⟨kb, 0, none⟩)) := by simp [World.cell?, k0]
  have c1 : W.cell? ⟨X, 0, none⟩ = some (.int .i64 x) := by simp [World.cell?, k1]
  have K0 := Lib.hid k0
  have K1 := Lib.hid k1
  have KC := Lib.hid kc
  clear k0 k1 kc hparts
  have hwh : IntKind.i64.wrap (2 ^ (width.toNat - 1)) = h := by
    rw [show width.toNat - 1 = (width - 1).toNat by omega, ← hh]; exact IntWalk.i64_in _ (by omega)
  have HH := Lib.hid hh
  clear hh
  refine callsIn_of_wp Try.func52 rfl trivial ?_ rfl
  simp only [Try.ntmps52, List.size_toArray, List.length_cons, List.length_nil, Nat.reduceAdd, Nat.reduceSub, Array.replicate_succ, Array.replicate_zero, List.push_toArray, List.append_toArray, List.nil_append, List.cons_append]
  gi_wp2_with fail
  gi_loopw [17] (fun i wr => ∃ (k : Nat) (y : Int), k ≤ parts ∧ i = .int .i64 (k : Int) ∧ (-2147483648 ≤ y ∧ y ≤ 2147483648) ∧ Hid (k < parts → y = xsI h x k) ∧ J k wr ∧ (∃ y' : Int, y' = y ∧ wr.heap[X]? = some (.cells #[.int .i64 y'] 2)) ∧ KeepP (fun b => b = cb ∨ b = kb) W wr)
    (fun i _ => parts - (intOf i).toNat)
  case atStart => exact ⟨0, x, Nat.zero_le _, rfl, hx, fun _ => rfl, h0, ⟨x, rfl, K1.out⟩, fun _ _ => rfl⟩
  case round =>
    clear c0 c1 d0 d1 d2 h0 hx
    obtain ⟨k, y, hk, rfl, hyb, hyx, hJs, ⟨y', rfl, hX⟩, hkp⟩ := hrel
    have c0 : wr.cell? ⟨cb, 0, none⟩ = some (.pointer (some ⟨kb, 0, none⟩)) := by rw [World.cell?_of_block (a := ⟨cb, 0, none⟩) (hkp cb (.inl rfl))]; simp [World.cell?, K0.out]
    have hkb := hkp kb (.inr rfl)
    obtain ⟨d0, d1, d2⟩ := three_cells (hkb.trans KC.out)
    have c1 : wr.cell? ⟨X, 0, none⟩ = some (.int .i64 y') := by simp [World.cell?, hX]
    by_cases hlt : k < parts
    · have hfz : wr.frozen? ⟨X, 0, none⟩ = false := by simp [World.frozen?, hX]
      have hyk := hyx.out hlt
      by_cases hla : k + 1 < parts
      · obtain ⟨r, hr⟩ : ∃ r, r = (y' + h) % (2 * h) := ⟨_, rfl⟩
        obtain ⟨q, hq⟩ : ∃ q, q = (y' + h) / (2 * h) := ⟨_, rfl⟩
        have hr0 : 0 ≤ r ∧ r < 2 * h := by rw [hr]; exact ⟨Int.emod_nonneg _ (by omega), Int.emod_lt_of_pos _ (by omega)⟩
        have hand : bits .and .i64 (y' + h) (2 * h - 1) = r := by
          rw [← HM.out, bits_and_low _ _ (by omega), HM.out, hr]
        have hdiv : (y' - (r - h)) / 2 ^ width.toNat = q := by
          have := Int.emod_add_mul_ediv (y' + h) (2 * h)
          rw [← hr, ← hq] at this
          rw [HM.out, show y' - (r - h) = 2 * h * q by omega, Int.mul_ediv_cancel_left _ (by omega)]
        have hqx : q = xsI h x (k + 1) := by rw [hq, hyk]; rfl
        have hqb : -2147483648 ≤ q ∧ q ≤ 2147483648 := by
          rw [hq]
          refine ⟨?_, ?_⟩
          · rw [Int.le_ediv_iff_mul_le (by omega)]; have : (-2147483648 : Int) * (2 * h) ≤ -2147483648 * 4 := by omega
            omega
          · have := Int.ediv_le_ediv (show (0 : Int) < 2 * h by omega) (show y' + h ≤ 2147483648 * (2 * h) by omega)
            rwa [Int.mul_ediv_cancel _ (by omega)] at this
        obtain ⟨fn, tmps, assign, body, hy, hR⟩ := HY.out k wr hJs hlt
        have hdg : digI h parts x k = r - h := by unfold digI; rw [if_pos hla, hr, hyk]
        rw [hdg] at hy
        have HD := Lib.hid hr
        have HQ := Lib.hid hq
        have HQX := Lib.hid hqx
        clear hr hq hqx hyk hdg
        gi_wp2_with fail
        refine hR.mono ?_
        rintro e W3 ⟨rfl, hJ3, hk3⟩
        have hX3 := (hk3 X (.inr (.inr rfl))).trans hX
        have c03 : W3.cell? ⟨cb, 0, none⟩ = some (.pointer (some ⟨kb, 0, none⟩)) := by rw [World.cell?_of_block (a := ⟨cb, 0, none⟩) (hk3 cb (.inl rfl))]; exact c0
        have hkb3 := (hk3 kb (.inr (.inl rfl))).trans hkb
        obtain ⟨d03, d13, d23⟩ := three_cells (hkb3.trans KC.out)
        have c13 : W3.cell? ⟨X, 0, none⟩ = some (.int .i64 y') := by simp [World.cell?, hX3]
        have hfz3 : W3.frozen? ⟨X, 0, none⟩ = false := by simp [World.frozen?, hX3]
        clear c0 c1 d0 d1 d2 hfz
        gi_wp2_with fail
        have hwr3 : IntKind.i64.wrap (y' - (r - h)) = y' - (r - h) := IntWalk.i64_in _ (by omega)
        gi_region_with (fail)
        all_goals
          gi_wp2
          go_roundw
          case rel => exact ⟨k + 1, q, by omega, by go_num, hqb, fun _ => HQX.out, by first | exact HJD.out _ _ 1 (HJX.out _ _ _ hJ3) | exact HJX.out _ _ _ hJ3, ⟨q, rfl, set_block1 hX3 _⟩, fun b hb => (Below.heap_setCell _ _ _ b (by rcases hb with rfl | rfl; exact fun e => hX1 e.symm; exact fun e => hX2 e.symm)).trans ((hk3 b (by rcases hb with rfl | rfl; exact .inl rfl; exact .inr (.inl rfl))).trans (hkp b hb))⟩
          case measure => simp [intOf]; omega
      · obtain ⟨fn, tmps, assign, body, hy, hR⟩ := HY.out k wr hJs hlt
        have hdg : digI h parts x k = y' := by unfold digI; rw [if_neg hla, hyk]
        rw [hdg] at hy
        clear hyk hdg
        gi_wp2_with fail
        refine hR.mono ?_
        rintro e W3 ⟨rfl, hJ3, hk3⟩
        have hX3 := (hk3 X (.inr (.inr rfl))).trans hX
        have c03 : W3.cell? ⟨cb, 0, none⟩ = some (.pointer (some ⟨kb, 0, none⟩)) := by rw [World.cell?_of_block (a := ⟨cb, 0, none⟩) (hk3 cb (.inl rfl))]; exact c0
        have hkb3 := (hk3 kb (.inr (.inl rfl))).trans hkb
        obtain ⟨d03, d13, d23⟩ := three_cells (hkb3.trans KC.out)
        have c13 : W3.cell? ⟨X, 0, none⟩ = some (.int .i64 y') := by simp [World.cell?, hX3]
        have hfz3 : W3.frozen? ⟨X, 0, none⟩ = false := by simp [World.frozen?, hX3]
        clear c0 c1 d0 d1 d2 hfz
        gi_wp2_with fail
        have hdiv : (0 : Int) / 2 ^ width.toNat = 0 := by simp
        gi_region_with (fail)
        all_goals
          gi_wp2
          go_roundw
          case rel => exact ⟨k + 1, 0, by omega, by go_num, by omega, fun hlt => absurd hlt hla, by first | exact HJD.out _ _ 1 (HJX.out _ _ _ hJ3) | exact HJX.out _ _ _ hJ3, ⟨0, rfl, by rw [hdiv]; exact set_block1 hX3 _⟩, fun b hb => (Below.heap_setCell _ _ _ b (by rcases hb with rfl | rfl; exact fun e => hX1 e.symm; exact fun e => hX2 e.symm)).trans ((hk3 b (by rcases hb with rfl | rfl; exact .inl rfl; exact .inr (.inl rfl))).trans (hkp b hb))⟩
          case measure => simp [intOf]; omega
    · obtain rfl : k = parts := by omega
      gi_wp2
      go_end0
      exact ⟨⟨_, rfl⟩, hJs⟩
set_option maxHeartbeats 1000000 in
theorem digits_in (n kb : Nat) (x : Int) (w : World) :
    CallsIn Fence.wide n Try.prog 32 #[.pointer (some ⟨kb, 0, none⟩), .int .i64 x] w fun e w' =>
      e = .returned (.func (.func 52) #[] #[.pointer (some ⟨w.heap.size, 0, none⟩), .pointer (some ⟨w.heap.size + 1, 0, none⟩)]) ∧
      w' = (w.alloc (.cells #[.pointer (some ⟨kb, 0, none⟩)] 52)).alloc (.cells #[.int .i64 x] 2) := by
  refine callsIn_of_wp Try.func32 rfl trivial ?_ rfl
  simp only [Try.ntmps32, List.size_toArray, List.length_cons, List.length_nil, Nat.reduceAdd, Nat.reduceSub, Array.replicate_succ, Array.replicate_zero, List.push_toArray, List.append_toArray, List.nil_append, List.cons_append]
  gi_wp2
  go_ret
  exact ⟨rfl, rfl⟩
/-- What holds between the rounds: it abides what the loop's records do, and a store into the iterator's own variable. -/
def RoundsI (B X : Nat) (I : Nat → World → Prop) : Prop := OwnFrom B I ∧ ∀ k W v, I k W → I k (W.setCell ⟨X, 0, none⟩ v)
/-- How a round's body may be left. -/
def roundQ (B : Nat) (I : Nat → World → Prop) (S : Nat → Prop) (k : Nat) (W : World) : Exit → Act → World → Prop
  | .normal, _, W' => KeepsFrom B W W' ∧ KeepP S W W' ∧ I (k + 1) W'
  | _, _, _ => False
theorem wpIn_digits {g : Operand} {ps : Array Tmp} {assign body : Code} {Q : Exit → Act → World → Prop} {a : Act} {w : World} {n : Nat} (h1 : 2 ≤ n) {cb kb X p : Nat}
    (hg : a.eval g = .func (.func 52) #[] #[.pointer (some ⟨cb, 0, none⟩), .pointer (some ⟨X, 0, none⟩)])
    (width : Int) (hw1 : 2 ≤ width) (hw2 : width ≤ 31) (x : Int) (hx : -2147483648 ≤ x ∧ x ≤ 2147483648)
    (h : Int) (hh : h = 2 ^ (width - 1).toNat) (parts : Nat) (hparts : (parts : Int) = partsI width)
    (hX1 : X ≠ cb) (hX2 : X ≠ kb) (hps : ps.size = 2)
    (k0 : w.heap[cb]? = some (.cells #[.pointer (some ⟨kb, 0, none⟩)] 52)) (k1 : w.heap[X]? = some (.cells #[.int .i64 x] 2)) (kc : CutterAt w kb p width)
    (I : Nat → World → Prop) (hI : RoundsI w.heap.size X I) (h0 : I 0 w) (a₁ : Nat → Act)
    (hassign : ∀ (l k : Nat) (W : World) (K : Act → World → Prop), K (a₁ k) W →
      assign.wpIn (Fence.wide.inRound l) (n - 1 - 1) Try.prog (Exit.then K (fun _ _ _ => False)) { tmps := (ps.zip #[.int .i64 (k : Int), .int .i64 (digI h parts x k)]).foldl (fun t (p, v) => t.setIfInBounds p v) a.tmps, defers := [] } W)
    (hbody : ∀ (l k : Nat) (W : World), I k W → k < parts → body.wpIn (Fence.wide.inRound l) (n - 1 - 1) Try.prog (roundQ w.heap.size I (DigKeep cb kb X) k W) (a₁ k) W)
    (hdone : ∀ (D : Nat) (W : World), w.heap.size ≤ D → I parts W → W.heap[D]? = some (.deferred (some [])) → Q .normal { a with defers := { target := .collected D, args := #[] } :: a.defers } W) :
    (Code.rangeFunc g ps assign body).wpIn Fence.wide n Try.prog Q a w := by
  obtain ⟨hO, hXs⟩ := hI
  have hcs := lt_of_heap k0
  have hXl := lt_of_heap k1
  have hkl := lt_of_heap kc
  have hkeep : ∀ b, DigKeep cb kb X b → b < w.heap.size := fun b hb => by rcases hb with rfl | rfl | rfl <;> assumption
  refine wpIn_rangeFunc fun fn hfn => ?_
  let recd : LoopState → Option Code → Loop := fun st pe => { state := st, pending := pe, fn, tmps := a.tmps, params := ps, assign, body, defers := w.heap.size }
  let W1 : World := (w.alloc (.deferred (some []))).alloc (.loop (recd .ready none))
  have hW1 : W1 = (w.alloc (.deferred (some []))).alloc (.loop (recd .ready none)) := rfl
  have hbel : Below w.heap.size w W1 := ((Below.refl _ w).alloc (Nat.le_refl _) _).alloc (by simp) _
  have hloop : W1.heap[w.heap.size + 1]? = some (.loop (recd .ready none)) := alloc_last _ _ (by simp)
  have hmark : W1.heap[w.heap.size]? = some (.deferred (some [])) := (Below.heap_alloc _ _ _ (by simp)).trans (alloc_last _ _ rfl)
  have hgo := digits1_in (n - 1) (by omega) (w.heap.size + 1) cb kb X p width hw1 hw2 x hx h hh parts hparts
    (fun k W => I k W ∧ W.heap[w.heap.size + 1]? = some (.loop (recd .ready none)) ∧ W.heap[w.heap.size]? = some (.deferred (some [])))
    (fun k W m hj => ⟨hO k W _ none hj.1 ⟨rfl, rfl, rfl, Nat.le_refl _, fun _ _ _ => rfl⟩ (fun r e => by cases e), hj.2⟩)
    (fun k W v hj => ⟨hXs k W v hj.1, (Below.heap_setCell _ _ _ _ (by simp; omega)).trans hj.2.1, (Below.heap_setCell _ _ _ _ (by simp; omega)).trans hj.2.2⟩)
    ?_ W1 hX1 hX2 ((hbel.block _ hcs).trans k0) ((hbel.block _ hXl).trans k1) ((hbel.block _ hkl).trans kc) ⟨hO.alloc _ (hO.alloc _ h0), hloop, hmark⟩
  · refine ⟨w.heap.size + 1, [{ target := .collected w.heap.size, args := #[] }], W1, { target := .fn (.func 52) #[.pointer (some ⟨cb, 0, none⟩), .pointer (some ⟨X, 0, none⟩)], args := #[.func (.yield (w.heap.size + 1)) #[] #[]] }, W1, 52, _, W1, run_enterLoop_outer _ _ _ _ _, ?_, fun _ _ => trivial, ?_, fun _ => by omega, hgo.mono ?_⟩
    · simp only [resolve, hg]
      simp [go_sem]
    · simp [invoke, go_sem]
    · rintro e W2 ⟨⟨v, rfl⟩, hi, hl, hd⟩
      refine ⟨none, _, run_endLoop (P := Try.prog) hl (by simp [recd]), hdone _ _ (Nat.le_refl _) (hO.putObj _ hi (by omega) hl rfl) ((World.putObj_heap_other (by omega)).trans hd)⟩
  · rintro k W ⟨hi, hl, hd⟩ hk
    have hls := lt_of_heap hl
    refine ⟨fn, _, assign, body, run_yield (P := Try.prog) hl (by simp [recd, hps]), roundIn_of_wpIn hfn (hassign _ k W _ ⟨_, run_beginRound hl rfl, ?_⟩)⟩
    have hl2 := World.putObj_heap_same (o := .loop { recd .ready none with state := .busy }) hls
    have hd2 := (World.putObj_heap_other (o := .loop { recd .ready none with state := .busy }) (show w.heap.size ≠ w.heap.size + 1 by omega)).trans hd
    refine wpIn_mono (hbody _ k _ (hO.putObj _ hi (by omega) hl rfl) hk) ?_
    rintro e a3 W3 hp
    cases e with
    | normal =>
      obtain ⟨hf3, hk3, hi3⟩ := hp
      have hl3 := hf3.same _ _ (by omega) hl2 rfl
      have hd3 := hf3.same _ _ (by omega) hd2 rfl
      refine ⟨_, _, run_endRound (P := Try.prog) none hl3, rfl, ⟨hO.putObj _ hi3 (by omega) hl3 rfl, World.putObj_heap_same (lt_of_heap hl3), (World.putObj_heap_other (by omega)).trans hd3⟩, fun b hb => ?_⟩
      have := hkeep b hb
      exact (World.putObj_heap_other (by omega)).trans ((hk3 b hb).trans (World.putObj_heap_other (by omega)))
    | ret => exact hp.elim
    | exit id => exact hp.elim
    | goto t => exact hp.elim
    | panic ch => exact hp.elim
    | outgrown => exact hp.elim
/-- The same, the element in temporaries. -/
theorem wpIn_digits_tmp {g : Operand} {ps : Array Tmp} {assign body : Code} {Q : Exit → Act → World → Prop} {a : Act} {w : World} {n : Nat} (h1 : 2 ≤ n) {cb kb X p : Nat}
    (hg : a.eval g = .func (.func 52) #[] #[.pointer (some ⟨cb, 0, none⟩), .pointer (some ⟨X, 0, none⟩)])
    (width : Int) (hw1 : 2 ≤ width) (hw2 : width ≤ 31) (x : Int) (hx : -2147483648 ≤ x ∧ x ≤ 2147483648)
    (h : Int) (hh : h = 2 ^ (width - 1).toNat) (parts : Nat) (hparts : (parts : Int) = partsI width)
    (hX1 : X ≠ cb) (hX2 : X ≠ kb) (hps : ps.size = 2)
    (k0 : w.heap[cb]? = some (.cells #[.pointer (some ⟨kb, 0, none⟩)] 52)) (k1 : w.heap[X]? = some (.cells #[.int .i64 x] 2)) (kc : CutterAt w kb p width)
    (I : Nat → World → Prop) (hI : RoundsI w.heap.size X I) (h0 : I 0 w) (sets : Nat → List (Nat × Value))
    (hassign : ∀ (l k : Nat) (W : World) (K : Act → World → Prop), (∀ a', a' = { tmps := (sets k).foldl (fun t (p : Nat × Value) => t.setIfInBounds p.1 p.2) a.tmps, defers := [] } → K a' W) →
      assign.wpIn (Fence.wide.inRound l) (n - 1 - 1) Try.prog (Exit.then K (fun _ _ _ => False)) { tmps := (ps.zip #[.int .i64 (k : Int), .int .i64 (digI h parts x k)]).foldl (fun t (p, v) => t.setIfInBounds p v) a.tmps, defers := [] } W)
    (hbody : ∀ (l k : Nat) (W : World), I k W → k < parts → body.wpIn (Fence.wide.inRound l) (n - 1 - 1) Try.prog (roundQ w.heap.size I (DigKeep cb kb X) k W) { tmps := (sets k).foldl (fun t (p : Nat × Value) => t.setIfInBounds p.1 p.2) a.tmps, defers := [] } W)
    (hdone : ∀ (D : Nat) (W : World), w.heap.size ≤ D → I parts W → W.heap[D]? = some (.deferred (some [])) → Q .normal { a with defers := { target := .collected D, args := #[] } :: a.defers } W) :
    (Code.rangeFunc g ps assign body).wpIn Fence.wide n Try.prog Q a w :=
  wpIn_digits h1 hg width hw1 hw2 x hx h hh parts hparts hX1 hX2 hps k0 k1 kc I hI h0 _ (fun l k W K hK => hassign l k W K (fun a' e => by rw [e]; exact hK)) hbody hdone
end Go.Proofs.Ytpcpgmgpkegjlaa
