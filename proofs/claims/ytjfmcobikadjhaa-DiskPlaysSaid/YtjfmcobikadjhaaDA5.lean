/- Walks: a disk: the iterator over the records of a half. -/
import Derived.Test.YtjfmcobikadjhaaDA4
import Derived.Test.YtjfmcobikadjhaaHeldIn
namespace Go.Proofs.Ytjfmcobikadjhaa
set_option linter.all false
open Go.RowKit Go.Shelf
attribute [local go_sem] Oper.semAt_some
/-- The record at a place, and the place behind it. -/
def nextR (h : List UInt8) (g k : Nat) : Option (Nat × List UInt8) :=
  if k + 13 ≤ h.length ∧ h.getD k 0 = 1 ∧ numL ((h.drop (k + 1)).take 4) ≤ 65535 ∧ k + 13 + numL ((h.drop (k + 1)).take 4) ≤ h.length ∧
      (h.drop (k + 1)).take (12 + numL ((h.drop (k + 1)).take 4)) = bodyL g k ((h.drop (k + 5)).take (numL ((h.drop (k + 1)).take 4)))
    then some (k + 13 + numL ((h.drop (k + 1)).take 4), (h.drop (k + 5)).take (numL ((h.drop (k + 1)).take 4))) else none
def recF (h : List UInt8) (g : Nat) : Nat → Nat → List (Nat × List UInt8)
  | 0, _ => []
  | f + 1, k => match nextR h g k with | none => [] | some (e, d) => (e, d) :: recF h g f e
def recs (h : List UInt8) (g : Nat) : List (Nat × List UInt8) := recF h g h.length 17
theorem recF_none {h : List UInt8} {g k : Nat} (hn : nextR h g k = none) (f : Nat) : recF h g f k = [] := by
  cases f with
  | zero => rfl
  | succ f => unfold recF; rw [hn]
theorem recF_some {h : List UInt8} {g k e : Nat} {d : List UInt8} (hn : nextR h g k = some (e, d)) (f : Nat) : recF h g (f + 1) k = (e, d) :: recF h g f e := by
  rw [recF, hn]
def encR (x : Nat × List UInt8) : Array Value := #[.int .i64 (x.1 : Int), .string (bytesOf x.2)]
def threeB (b c1 c2 k : Nat) : Prop := k = b ∨ k = c1 ∨ k = c2
set_option maxRecDepth 100000 in
set_option maxHeartbeats 40000000 in
theorem records1 (n : Nat) (hn : 1 ≤ n) (l b c1 c2 : Nat) (h : List UInt8) (g : Nat) (hg : g < 18446744073709551616) (h64 : 64 ≤ h.length) (hmx : h.length ≤ 262144) (J Jx : List (Nat × List UInt8) → World → Prop)
    (hJ : ∀ pre A A', J pre A → Below A.heap.size A A' → J pre A') (hJx : ∀ pre A A', Jx pre A → Below A.heap.size A A' → Jx pre A')
    (hY : ∀ pre x W, J pre W → pre.length < h.length → YieldAt Fence.wide (n - 1) Try.prog l (encR x) W fun e W' =>
      (e = .returned (.bool true) ∧ J (pre ++ [x]) W' ∧ KeepP (threeB b c1 c2) W W') ∨ (e = .returned (.bool false) ∧ Jx (pre ++ [x]) W'))
    (W : World) (hh : HalfAt W b h) (h1 : W.cell? ⟨c1, 0, none⟩ = some (.slice (some ⟨b, 0, none⟩) h.length h.length)) (h2 : W.cell? ⟨c2, 0, none⟩ = some (.int .u64 (g : Int))) (h0 : J [] W) :
    CallsIn Fence.wide n Try.prog 46 #[.func (.yield l) #[] #[], .pointer (some ⟨c1, 0, none⟩), .pointer (some ⟨c2, 0, none⟩)] W fun e W' => (∃ v, e = .returned v) ∧
      ((∃ ys, ys = recs h g ∧ J ys W') ∨ (∃ pre, Jx pre W')) := by
  have hro : Fence.wide.round = none := rfl
  obtain ⟨m, hm⟩ : ∃ m, m = h.length := ⟨_, rfl⟩
  rw [← hm] at h64 hmx h1 hY
  have HM := Lib.hid hm
  have HJ := Lib.hid hJ
  have HJX := Lib.hid hJx
  have HY := Lib.hid hY
  have HH := Lib.hid hh
  have HC1 := Lib.hid h1
  have HC2 := Lib.hid h2
  have HRC : Hid (recs h g = recF h g m 17) := by show _ = _; rw [hm]; rfl
  clear hm hJ hJx hY hh h1 h2
  refine callsIn_of_wp Try.func46 rfl trivial ?_ rfl
  simp only [Try.ntmps46, List.size_toArray, List.length_cons, List.length_nil, Nat.reduceAdd, Nat.reduceSub, Array.replicate_succ, Array.replicate_zero, List.push_toArray, List.append_toArray, List.nil_append, List.cons_append]
  gi_wp2_with fail
  gi_loopw [4] (fun v wr => ∃ (k f : Nat) (pre : List (Nat × List UInt8)), v = .int .i64 (k : Int) ∧ 17 + 13 * pre.length ≤ k ∧ f + pre.length = m ∧ k ≤ 17 + m ∧ Hid (recs h g = pre ++ recF h g f k) ∧ Hid (J pre wr) ∧ Hid (KeepP (threeB b c1 c2) W wr)) (fun v _ => 17 + m - (intOf v).toNat)
  case atStart => exact ⟨17, m, [], rfl, by simp, by simp, by omega, HRC.out, h0, KeepP.refl W⟩
  case round =>
    obtain ⟨k, f, pre, rfl, hk1, hf, hk2, hrec, hJs, hkp⟩ := hrel
    have hhw : HalfAt wr b h := by
      obtain ⟨t, ht⟩ := HH.out
      exact ⟨t, (hkp.out b (Or.inl rfl)).trans ht⟩
    have hc1 : wr.cell? ⟨c1, 0, none⟩ = some (.slice (some ⟨b, 0, none⟩) m m) := (hkp.out.cell (Or.inr (Or.inl rfl))).trans HC1.out
    have hc2 : wr.cell? ⟨c2, 0, none⟩ = some (.int .u64 (g : Int)) := (hkp.out.cell (Or.inr (Or.inr rfl))).trans HC2.out
    have HHW := Lib.hid hhw
    clear hhw
    by_cases a1 : k + 13 ≤ m
    case neg =>
      have hnx : nextR h g k = none := by unfold nextR; rw [if_neg]; rintro ⟨q, -⟩; rw [← HM.out] at q; exact a1 q
      have t1 : ¬ ((k : Int) + 13 ≤ (m : Int)) := by omega
      have HJR : Hid (J (recs h g) wr) := by
        have e : pre = recs h g := by rw [hrec.out, recF_none hnx, List.append_nil]
        rw [← e]; exact hJs.out
      clear hnx a1
      gi_wp2
      go_end0
      first | exact ⟨⟨_, rfl⟩, .inl ⟨_, rfl, HJR.out⟩⟩ | exact ⟨⟨_, rfl⟩, .inl HJR.out⟩
    have t1 : (k : Int) + 13 ≤ (m : Int) := by omega
    have hkm : k < m := by omega
    obtain ⟨x, hx⟩ : ∃ x, h[k]? = some x := ⟨h[k]'(by rw [← HM.out]; exact hkm), List.getElem?_eq_getElem _⟩
    have hcx := HHW.out.cell k x hx
    have hgx : h.getD k 0 = x := by rw [List.getD_eq_getElem?_getD, hx]; rfl
    have HGX := Lib.hid hgx
    clear hx hgx
    by_cases a2 : x = 1
    case neg =>
      have hnx : nextR h g k = none := by unfold nextR; rw [if_neg]; rintro ⟨-, q, -⟩; rw [HGX.out] at q; exact a2 q
      have t2 : ((x.toNat : Int) == 1) = false := by
        rw [beq_eq_false_iff_ne]
        intro h
        exact a2 (UInt8.toNat_inj.1 (by show x.toNat = 1; omega))
      have HJR : Hid (J (recs h g) wr) := by
        have e : pre = recs h g := by rw [hrec.out, recF_none hnx, List.append_nil]
        rw [← e]; exact hJs.out
      clear hnx a1 a2
      gi_wp2
      go_end0
      first | exact ⟨⟨_, rfl⟩, .inl ⟨_, rfl, HJR.out⟩⟩ | exact ⟨⟨_, rfl⟩, .inl HJR.out⟩
    have t2 : ((x.toNat : Int) == 1) = true := by rw [a2]; rfl
    have hl4 : ((h.drop (k + 1)).take 4).length = 4 := by rw [List.length_take, List.length_drop, ← HM.out]; omega
    obtain ⟨v, hv⟩ : ∃ v, v = numL ((h.drop (k + 1)).take 4) := ⟨_, rfl⟩
    have hvl := numL_lt ((h.drop (k + 1)).take 4)
    rw [hl4, ← hv] at hvl
    have h256 : (256 : Nat) ^ 4 = 4294967296 := by simp
    rw [h256] at hvl
    have HN := number_any b (k + 1) (m - (k + 1)) h ((h.drop (k + 1)).take 4) wr HHW.out (by rw [hl4]) (by rw [hl4]; omega)
    rw [hl4, ← hv] at HN
    have HNN := Lib.hid HN
    have HV := Lib.hid hv
    clear hl4 hv h256 HN
    have i1 : (k : Int) + 5 ≤ (m : Int) := by omega
    have i2 : k + 5 ≤ m := by omega
    gi_wp2_with fail
    refine ⟨trivial, (callsIn_wide.2 HNN.out).mono ?_⟩
    rintro e w5 ⟨rfl, rfl⟩
    have hw1 : IntKind.i64.wrap (v : Int) = (v : Int) := IntWalk.i64_in _ ⟨by omega, by omega⟩
    by_cases a3 : v ≤ 65535
    case neg =>
      have hnx : nextR h g k = none := by unfold nextR; rw [if_neg]; rintro ⟨-, -, q, -⟩; rw [← HV.out] at q; exact a3 q
      have t3 : (65535 : Int) < (v : Int) := by omega
      have HJR : Hid (J (recs h g) wr) := by
        have e : pre = recs h g := by rw [hrec.out, recF_none hnx, List.append_nil]
        rw [← e]; exact hJs.out
      clear hnx a1 a2 a3
      gi_wp2
      refine bodyPost_ret (results_none rfl _ _ _) rfl ?_
      first | exact ⟨⟨_, rfl⟩, .inl ⟨_, rfl, HJR.out⟩⟩ | exact ⟨⟨_, rfl⟩, .inl HJR.out⟩
    have t3 : ¬ (65535 : Int) < (v : Int) := by omega
    by_cases a4 : k + 13 + v ≤ m
    case neg =>
      have hnx : nextR h g k = none := by unfold nextR; rw [if_neg]; rintro ⟨-, -, -, q, -⟩; rw [← HV.out, ← HM.out] at q; exact a4 q
      have t4 : (m : Int) < (k : Int) + 13 + (v : Int) := by omega
      have HJR : Hid (J (recs h g) wr) := by
        have e : pre = recs h g := by rw [hrec.out, recF_none hnx, List.append_nil]
        rw [← e]; exact hJs.out
      clear hnx a1 a2 a3 a4
      gi_wp2
      refine bodyPost_ret (results_none rfl _ _ _) rfl ?_
      first | exact ⟨⟨_, rfl⟩, .inl ⟨_, rfl, HJR.out⟩⟩ | exact ⟨⟨_, rfl⟩, .inl HJR.out⟩
    have t4 : ¬ (m : Int) < (k : Int) + 13 + (v : Int) := by omega
    obtain ⟨data, hdata⟩ : ∃ d, d = (h.drop (k + 5)).take v := ⟨_, rfl⟩
    have hdl : data.length = v := by rw [hdata, List.length_take, List.length_drop, ← HM.out]; omega
    have ht5 : ∀ c, (convert 49 9 (.slice (some ⟨b, k + 5, none⟩) v c)).run Try.prog wr = .ok (.string (bytesOf data)) wr := fun c => by
      rw [hdata]; exact HHW.out.text (k + 5) v (by rw [← HM.out]; omega) c
    obtain ⟨tail, htail⟩ : ∃ d, d = (h.drop (k + 1)).take (12 + v) := ⟨_, rfl⟩
    obtain ⟨K1, hK1⟩ : ∃ K1, K1 = k + 1 := ⟨_, rfl⟩
    have HT1 : Hid (∀ W, HalfAt W b h → ∀ c, (convert 49 9 (.slice (some ⟨b, K1, none⟩) (12 + v) c)).run Try.prog W = .ok (.string (bytesOf tail)) W) := fun W hW c => by
      rw [htail, hK1]; exact hW.text (k + 1) (12 + v) (by rw [← HM.out]; omega) c
    have HD := Lib.hid hdata
    have HTL := Lib.hid htail
    have HDL := Lib.hid hdl
    clear hdata htail hdl
    obtain ⟨E, hE⟩ : ∃ E, E = k + 13 + v := ⟨_, rfl⟩
    have hEi : (k : Int) + 13 + (v : Int) = (E : Int) := by omega
    have hE8 : (E : Int) - 8 = ((k + 5 + v : Nat) : Int) := by omega
    have e1 : k + 5 + v - (k + 5) = v := by omega
    have e2 : E - K1 = 12 + v := by omega
    have hwk : IntKind.i64.wrap ((k : Int) + 1) = (K1 : Int) := by rw [IntWalk.i64_in _ ⟨by omega, by omega⟩]; omega
    have n5 : ¬ m = k + 5 := by omega
    have n1 : ¬ m = K1 := by omega
    have i3 : k + 5 ≤ k + 5 + v := by omega
    have i4 : k + 5 + v ≤ m := by omega
    have i5 : K1 ≤ E := by omega
    have i6 : E ≤ m := by omega
    have HE := Lib.hid hE
    clear hE hK1
    gi_wp2_with fail
    by_cases a5 : tail = bodyL g k data
    case neg =>
      have hcv6 := HT1.out wr.drew HHW.out
      have l1 := HHW.out.lt
      refine wpIn_region_heldL (fun w' => w'.cell? ⟨c1, 0, none⟩ = some (.slice (some ⟨b, 0, none⟩) m m) ∧ w'.cell? ⟨c2, 0, none⟩ = some (.int .u64 (g : Int)) ∧ ∀ c, (convert 49 9 (.slice (some ⟨b, K1, none⟩) (12 + v) c)).run Try.prog w' = .ok (.string (bytesOf tail)) w') (by kernel_rfl) ⟨hc1, hc2, hcv6⟩ (fun hS => ?_)
      refine wpAnyHIn_takeL 0 (v := ?_) hro (by kernel_rfl) rfl (by kernel_rfl) (by kernel_rfl) (fun _ _ _ h => h) (Or.inl ⟨by rfl, ?_⟩) (fun _ => rfl) (by assumption) ?_
      rotate_left
      · (intro wq hSq; (try dsimp only at hSq); go_simp; try with_reducible rfl)
      try simp only [Act.put, List.setIfInBounds_toArray, List.set_cons_zero, List.set_cons_succ]
      refine wpAnyHIn_takeL 1 (v := ?_) hro (by kernel_rfl) rfl (by kernel_rfl) (by kernel_rfl) (fun _ _ _ h => h) (Or.inl ⟨by rfl, ?_⟩) (fun _ => rfl) (by assumption) ?_
      rotate_left
      · (intro wq hSq; (try dsimp only at hSq); go_simp; try with_reducible rfl)
      try simp only [Act.put, List.setIfInBounds_toArray, List.set_cons_zero, List.set_cons_succ]
      refine wpAnyHIn_takeL 2 (v := ?_) hro (by kernel_rfl) rfl (by kernel_rfl) (by kernel_rfl) (fun _ _ _ h => h) (Or.inl ⟨by rfl, ?_⟩) (fun _ => rfl) (by assumption) ?_
      rotate_left
      · (intro wq hSq; (try dsimp only at hSq); go_simp; try with_reducible rfl)
      try simp only [Act.put, List.setIfInBounds_toArray, List.set_cons_zero, List.set_cons_succ]
      refine wpAnyHIn_takeL 3 (v := ?_) hro (by kernel_rfl) rfl (by kernel_rfl) (by kernel_rfl) (fun _ _ _ h => h) (Or.inl ⟨by rfl, ?_⟩) (fun _ => rfl) (by assumption) ?_
      rotate_left
      · (intro wq hSq; (try dsimp only at hSq); go_simp; try with_reducible rfl)
      try simp only [Act.put, List.setIfInBounds_toArray, List.set_cons_zero, List.set_cons_succ]
      refine wpAnyHIn_takeL 4 (v := ?_) hro (by kernel_rfl) rfl (by kernel_rfl) (by kernel_rfl) (fun _ _ _ h => h) (Or.inl ⟨by rfl, ?_⟩) (fun _ => rfl) (by assumption) ?_
      rotate_left
      · (intro wq hSq; (try dsimp only at hSq); go_simp; try with_reducible rfl)
      try simp only [Act.put, List.setIfInBounds_toArray, List.set_cons_zero, List.set_cons_succ]
      refine wpAnyHIn_takeL 5 (v := ?_) hro (by kernel_rfl) rfl (by kernel_rfl) (by kernel_rfl) (fun _ _ _ h => h) (Or.inl ⟨by rfl, ?_⟩) (fun _ => rfl) (by assumption) ?_
      rotate_left
      · (intro wq hSq; (try dsimp only at hSq); go_simp; try with_reducible rfl)
      try simp only [Act.put, List.setIfInBounds_toArray, List.set_cons_zero, List.set_cons_succ]
      refine wpAnyHIn_takeL 6 (v := ?_) hro (by kernel_rfl) rfl (by kernel_rfl) (by kernel_rfl) (fun _ _ _ h => h) (Or.inl ⟨by rfl, ?_⟩) (fun _ => rfl) (by assumption) ?_
      rotate_left
      · (intro wq hSq; (try dsimp only at hSq); go_simp; try with_reducible rfl)
      try simp only [Act.put, List.setIfInBounds_toArray, List.set_cons_zero, List.set_cons_succ]
      refine wpAnyHIn_takeL 7 (v := ?_) hro (by kernel_rfl) rfl (by kernel_rfl) (by kernel_rfl) (fun _ _ _ h => h) (Or.inl ⟨by rfl, ?_⟩) (fun _ => rfl) (by assumption) ?_
      rotate_left
      · (intro wq hSq; (try dsimp only at hSq); go_simp; try with_reducible rfl)
      try simp only [Act.put, List.setIfInBounds_toArray, List.set_cons_zero, List.set_cons_succ]
      refine wpAnyHIn_takeL 8 (v := ?_) hro (by kernel_rfl) rfl (by kernel_rfl) (by kernel_rfl) (fun _ _ _ h => h) (Or.inl ⟨by rfl, ?_⟩) (fun _ => rfl) (by assumption) ?_
      rotate_left
      · (intro wq hSq; (try dsimp only at hSq); go_simp; try with_reducible rfl)
      try simp only [Act.put, List.setIfInBounds_toArray, List.set_cons_zero, List.set_cons_succ]
      refine wpAnyHIn_stepL 9 (by kernel_rfl) rfl (fun K hK => ?_)
      go_simp
      refine ⟨trivial, (callsIn_wide.2 (body_any g k data hg (by omega) (by have := HDL.out; omega) wr.drew)).mono ?_⟩
      rintro e w6 ⟨rfl, hb6d⟩
      have hb6 : Below wr.heap.size wr w6 := ((Below.refl wr.heap.size wr).drew).trans hb6d
      have hh6 := HHW.out.below hb6 l1
      have hj1 : w6.cell? ⟨c1, 0, none⟩ = some (.slice (some ⟨b, 0, none⟩) m m) := (hb6.cell (p := ⟨c1, 0, none⟩) (World.block_lt_of_cell? wr ⟨c1, 0, none⟩ hc1)).trans hc1
      have hj2 : w6.cell? ⟨c2, 0, none⟩ = some (.int .u64 (g : Int)) := (hb6.cell (p := ⟨c2, 0, none⟩) (World.block_lt_of_cell? wr ⟨c2, 0, none⟩ hc2)).trans hc2
      have hS6 : (fun w' : World => w'.cell? ⟨c1, 0, none⟩ = some (.slice (some ⟨b, 0, none⟩) m m) ∧ w'.cell? ⟨c2, 0, none⟩ = some (.int .u64 (g : Int)) ∧ ∀ c, (convert 49 9 (.slice (some ⟨b, K1, none⟩) (12 + v) c)).run Try.prog w' = .ok (.string (bytesOf tail)) w') w6 := ⟨hj1, hj2, HT1.out w6 hh6⟩
      refine hK.out _ _ hS6 (fun _ => ?_)
      have HK6 : Hid (KeepP (threeB b c1 c2) W w6) := hkp.out.trans (KeepP.below hb6 (fun z hz => by
        rcases hz with rfl | rfl | rfl
        · exact l1
        · exact World.block_lt_of_cell? wr ⟨_, 0, none⟩ hc1
        · exact World.block_lt_of_cell? wr ⟨_, 0, none⟩ hc2))
      have HJ6 : Hid (J pre w6) := HJ.out _ _ _ hJs.out hb6
      clear hK K hS
      try simp only [Act.put, List.setIfInBounds_toArray, List.set_cons_zero, List.set_cons_succ]
      have t5 := str_bne (bytesOf tail) (bytesOf (bodyL g k data)) (fun h => a5 (bytesOf_inj h))
      have hnx : nextR h g k = none := by unfold nextR; rw [if_neg]; rintro ⟨-, -, -, -, q⟩; rw [← HV.out, ← HD.out, ← HTL.out] at q; exact a5 q
      have HJR : Hid (J (recs h g) w6) := by
        have e : pre = recs h g := by rw [hrec.out, recF_none hnx, List.append_nil]
        rw [← e]; exact HJ6.out
      clear hnx a5
      refine wpAnyHIn_takeL 10 (v := ?_) hro (by kernel_rfl) rfl (by kernel_rfl) (by kernel_rfl) (fun _ _ _ h => h) (Or.inl ⟨by rfl, ?_⟩) (fun _ => rfl) (by assumption) ?_
      rotate_left
      · (intro wq hSq; (try dsimp only at hSq); go_simp; try with_reducible rfl)
      try simp only [Act.put, List.setIfInBounds_toArray, List.set_cons_zero, List.set_cons_succ]
      refine wpAnyHIn_takeL 11 (v := ?_) hro (by kernel_rfl) rfl (by kernel_rfl) (by kernel_rfl) (fun _ _ _ h => h) (Or.inl ⟨by rfl, ?_⟩) (fun _ => rfl) (by assumption) ?_
      rotate_left
      · (intro wq hSq; (try dsimp only at hSq); go_simp; try with_reducible rfl)
      try simp only [Act.put, List.setIfInBounds_toArray, List.set_cons_zero, List.set_cons_succ]
      refine wpAnyHIn_takeL 12 (v := undef) hro (by kernel_rfl) rfl (by kernel_rfl) (by kernel_rfl) (fun _ _ _ h => h) (Or.inr ⟨by rfl, rfl⟩) (fun _ => rfl) (by assumption) ?_
      try simp only [Act.put, List.setIfInBounds_toArray, List.set_cons_zero, List.set_cons_succ]
      refine wpAnyHIn_takeL 13 (v := undef) hro (by kernel_rfl) rfl (by kernel_rfl) (by kernel_rfl) (fun _ _ _ h => h) (Or.inr ⟨by rfl, rfl⟩) (fun _ => rfl) (by assumption) ?_
      try simp only [Act.put, List.setIfInBounds_toArray, List.set_cons_zero, List.set_cons_succ]
      refine wpAnyHIn_takeL 14 (v := undef) hro (by kernel_rfl) rfl (by kernel_rfl) (by kernel_rfl) (fun _ _ _ h => h) (Or.inr ⟨by rfl, rfl⟩) (fun _ => rfl) (by assumption) ?_
      try simp only [Act.put, List.setIfInBounds_toArray, List.set_cons_zero, List.set_cons_succ]
      refine wpAnyHIn_takeL 15 (v := undef) hro (by kernel_rfl) rfl (by kernel_rfl) (by kernel_rfl) (fun _ _ _ h => h) (Or.inr ⟨by rfl, rfl⟩) (fun _ => rfl) (by assumption) ?_
      try simp only [Act.put, List.setIfInBounds_toArray, List.set_cons_zero, List.set_cons_succ]
      refine wpAnyHIn_takeL 16 (v := undef) hro (by kernel_rfl) rfl (by kernel_rfl) (by kernel_rfl) (fun _ _ _ h => h) (Or.inr ⟨by rfl, rfl⟩) (fun _ => rfl) (by assumption) ?_
      try simp only [Act.put, List.setIfInBounds_toArray, List.set_cons_zero, List.set_cons_succ]
      refine wpAnyHIn_takeL 17 (v := ?_) hro (by kernel_rfl) rfl (by kernel_rfl) (by kernel_rfl) (fun _ _ _ h => h) (Or.inl ⟨by rfl, ?_⟩) (fun _ => rfl) (by assumption) ?_
      rotate_left
      · (intro wq hSq; (try dsimp only at hSq); go_simp; try with_reducible rfl)
      try simp only [Act.put, List.setIfInBounds_toArray, List.set_cons_zero, List.set_cons_succ]
      refine wpAnyHIn_end (by kernel_rfl) ?_
      gi_wp2
      refine bodyPost_ret (results_none rfl _ _ _) rfl ?_
      first | exact ⟨⟨_, rfl⟩, .inl ⟨_, rfl, HJR.out⟩⟩ | exact ⟨⟨_, rfl⟩, .inl HJR.out⟩
    have hcv6 := HT1.out wr.drew HHW.out
    have l1 := HHW.out.lt
    refine wpIn_region_K (fun w' => w'.cell? ⟨c1, 0, none⟩ = some (.slice (some ⟨b, 0, none⟩) m m) ∧ w'.cell? ⟨c2, 0, none⟩ = some (.int .u64 (g : Int)) ∧ ∀ c, (convert 49 9 (.slice (some ⟨b, K1, none⟩) (12 + v) c)).run Try.prog w' = .ok (.string (bytesOf tail)) w') 15 (by kernel_rfl) ⟨hc1, hc2, hcv6⟩ (fun hS => ?_)
    refine wpAnyKC_takeL 0 20 (v := ?_) hro (by kernel_rfl) (by kernel_rfl) (by kernel_rfl) rfl (by kernel_rfl) (by kernel_rfl) (fun _ _ _ h => h) (Or.inl ⟨by rfl, ?_⟩) (fun _ => rfl) (by assumption) ?_
    rotate_left
    · (intro wq hSq; (try dsimp only at hSq); go_simp; try with_reducible rfl)
    try simp only [Act.put, List.setIfInBounds_toArray, List.set_cons_zero, List.set_cons_succ]
    refine wpAnyKC_takeL 1 20 (v := ?_) hro (by kernel_rfl) (by kernel_rfl) (by kernel_rfl) rfl (by kernel_rfl) (by kernel_rfl) (fun _ _ _ h => h) (Or.inl ⟨by rfl, ?_⟩) (fun _ => rfl) (by assumption) ?_
    rotate_left
    · (intro wq hSq; (try dsimp only at hSq); go_simp; try with_reducible rfl)
    try simp only [Act.put, List.setIfInBounds_toArray, List.set_cons_zero, List.set_cons_succ]
    refine wpAnyKC_takeL 2 20 (v := ?_) hro (by kernel_rfl) (by kernel_rfl) (by kernel_rfl) rfl (by kernel_rfl) (by kernel_rfl) (fun _ _ _ h => h) (Or.inl ⟨by rfl, ?_⟩) (fun _ => rfl) (by assumption) ?_
    rotate_left
    · (intro wq hSq; (try dsimp only at hSq); go_simp; try with_reducible rfl)
    try simp only [Act.put, List.setIfInBounds_toArray, List.set_cons_zero, List.set_cons_succ]
    refine wpAnyKC_takeL 3 20 (v := ?_) hro (by kernel_rfl) (by kernel_rfl) (by kernel_rfl) rfl (by kernel_rfl) (by kernel_rfl) (fun _ _ _ h => h) (Or.inl ⟨by rfl, ?_⟩) (fun _ => rfl) (by assumption) ?_
    rotate_left
    · (intro wq hSq; (try dsimp only at hSq); go_simp; try with_reducible rfl)
    try simp only [Act.put, List.setIfInBounds_toArray, List.set_cons_zero, List.set_cons_succ]
    refine wpAnyKC_takeL 4 20 (v := ?_) hro (by kernel_rfl) (by kernel_rfl) (by kernel_rfl) rfl (by kernel_rfl) (by kernel_rfl) (fun _ _ _ h => h) (Or.inl ⟨by rfl, ?_⟩) (fun _ => rfl) (by assumption) ?_
    rotate_left
    · (intro wq hSq; (try dsimp only at hSq); go_simp; try with_reducible rfl)
    try simp only [Act.put, List.setIfInBounds_toArray, List.set_cons_zero, List.set_cons_succ]
    refine wpAnyKC_takeL 5 20 (v := ?_) hro (by kernel_rfl) (by kernel_rfl) (by kernel_rfl) rfl (by kernel_rfl) (by kernel_rfl) (fun _ _ _ h => h) (Or.inl ⟨by rfl, ?_⟩) (fun _ => rfl) (by assumption) ?_
    rotate_left
    · (intro wq hSq; (try dsimp only at hSq); go_simp; try with_reducible rfl)
    try simp only [Act.put, List.setIfInBounds_toArray, List.set_cons_zero, List.set_cons_succ]
    refine wpAnyKC_takeL 6 20 (v := ?_) hro (by kernel_rfl) (by kernel_rfl) (by kernel_rfl) rfl (by kernel_rfl) (by kernel_rfl) (fun _ _ _ h => h) (Or.inl ⟨by rfl, ?_⟩) (fun _ => rfl) (by assumption) ?_
    rotate_left
    · (intro wq hSq; (try dsimp only at hSq); go_simp; try with_reducible rfl)
    try simp only [Act.put, List.setIfInBounds_toArray, List.set_cons_zero, List.set_cons_succ]
    refine wpAnyKC_takeL 7 20 (v := ?_) hro (by kernel_rfl) (by kernel_rfl) (by kernel_rfl) rfl (by kernel_rfl) (by kernel_rfl) (fun _ _ _ h => h) (Or.inl ⟨by rfl, ?_⟩) (fun _ => rfl) (by assumption) ?_
    rotate_left
    · (intro wq hSq; (try dsimp only at hSq); go_simp; try with_reducible rfl)
    try simp only [Act.put, List.setIfInBounds_toArray, List.set_cons_zero, List.set_cons_succ]
    refine wpAnyKC_takeL 8 20 (v := ?_) hro (by kernel_rfl) (by kernel_rfl) (by kernel_rfl) rfl (by kernel_rfl) (by kernel_rfl) (fun _ _ _ h => h) (Or.inl ⟨by rfl, ?_⟩) (fun _ => rfl) (by assumption) ?_
    rotate_left
    · (intro wq hSq; (try dsimp only at hSq); go_simp; try with_reducible rfl)
    try simp only [Act.put, List.setIfInBounds_toArray, List.set_cons_zero, List.set_cons_succ]
    refine wpAnyKC_stepL 9 (by kernel_rfl) rfl (fun K hK => ?_)
    go_simp
    refine ⟨trivial, (callsIn_wide.2 (body_any g k data hg (by omega) (by have := HDL.out; omega) wr.drew)).mono ?_⟩
    rintro e w6 ⟨rfl, hb6d⟩
    have hb6 : Below wr.heap.size wr w6 := ((Below.refl wr.heap.size wr).drew).trans hb6d
    have hh6 := HHW.out.below hb6 l1
    have hj1 : w6.cell? ⟨c1, 0, none⟩ = some (.slice (some ⟨b, 0, none⟩) m m) := (hb6.cell (p := ⟨c1, 0, none⟩) (World.block_lt_of_cell? wr ⟨c1, 0, none⟩ hc1)).trans hc1
    have hj2 : w6.cell? ⟨c2, 0, none⟩ = some (.int .u64 (g : Int)) := (hb6.cell (p := ⟨c2, 0, none⟩) (World.block_lt_of_cell? wr ⟨c2, 0, none⟩ hc2)).trans hc2
    have hS6 : (fun w' : World => w'.cell? ⟨c1, 0, none⟩ = some (.slice (some ⟨b, 0, none⟩) m m) ∧ w'.cell? ⟨c2, 0, none⟩ = some (.int .u64 (g : Int)) ∧ ∀ c, (convert 49 9 (.slice (some ⟨b, K1, none⟩) (12 + v) c)).run Try.prog w' = .ok (.string (bytesOf tail)) w') w6 := ⟨hj1, hj2, HT1.out w6 hh6⟩
    refine hK.out _ _ (fun _ => hS6) ?_
    have HK6 : Hid (KeepP (threeB b c1 c2) W w6) := hkp.out.trans (KeepP.below hb6 (fun z hz => by
      rcases hz with rfl | rfl | rfl
      · exact l1
      · exact World.block_lt_of_cell? wr ⟨_, 0, none⟩ hc1
      · exact World.block_lt_of_cell? wr ⟨_, 0, none⟩ hc2))
    have HJ6 : Hid (J pre w6) := HJ.out _ _ _ hJs.out hb6
    clear hK K hS
    try simp only [Act.put, List.setIfInBounds_toArray, List.set_cons_zero, List.set_cons_succ]
    have t5 := str_beq (bytesOf tail) (bytesOf (bodyL g k data)) (by rw [a5])
    have hnx : nextR h g k = some (E, data) := by
      unfold nextR
      rw [← HM.out, ← HV.out, ← HD.out, ← HTL.out, HE.out, if_pos ⟨a1, by rw [HGX.out]; exact a2, a3, a4, a5⟩]
    have HNX := Lib.hid hnx
    obtain ⟨f', rfl⟩ : ∃ f', f = f' + 1 := ⟨f - 1, by omega⟩
    have HR2 : Hid (recs h g = (pre ++ [(E, data)]) ++ recF h g f' E) := by show _ = _; rw [hrec.out, recF_some hnx]; simp
    clear hnx a5
    obtain ⟨fn, tmps, assign, body, hy, hR⟩ := HY.out pre (E, data) w6 HJ6.out (by omega)
    have hy' : (Instr.yield l #[.int .i64 (E : Int), .string (bytesOf data)]).run Try.prog w6 = .ok (.round l fn tmps assign body) w6 := hy
    clear hy
    refine wpAnyKC_takeL 10 20 (v := ?_) hro (by kernel_rfl) (by kernel_rfl) (by kernel_rfl) rfl (by kernel_rfl) (by kernel_rfl) (fun _ _ _ h => h) (Or.inl ⟨by rfl, ?_⟩) (fun _ => rfl) (by assumption) ?_
    rotate_left
    · (intro wq hSq; (try dsimp only at hSq); go_simp; try with_reducible rfl)
    try simp only [Act.put, List.setIfInBounds_toArray, List.set_cons_zero, List.set_cons_succ]
    refine wpAnyKC_takeL 11 20 (v := ?_) hro (by kernel_rfl) (by kernel_rfl) (by kernel_rfl) rfl (by kernel_rfl) (by kernel_rfl) (fun _ _ _ h => h) (Or.inl ⟨by rfl, ?_⟩) (fun _ => rfl) (by assumption) ?_
    rotate_left
    · (intro wq hSq; (try dsimp only at hSq); go_simp; try with_reducible rfl)
    try simp only [Act.put, List.setIfInBounds_toArray, List.set_cons_zero, List.set_cons_succ]
    refine wpAnyKC_takeL 12 20 (v := ?_) hro (by kernel_rfl) (by kernel_rfl) (by kernel_rfl) rfl (by kernel_rfl) (by kernel_rfl) (fun _ _ _ h => h) (Or.inl ⟨by rfl, ?_⟩) (fun _ => rfl) (by assumption) ?_
    rotate_left
    · (intro wq hSq; (try dsimp only at hSq); go_simp; try with_reducible rfl)
    try simp only [Act.put, List.setIfInBounds_toArray, List.set_cons_zero, List.set_cons_succ]
    refine wpAnyKC_takeL 13 20 (v := ?_) hro (by kernel_rfl) (by kernel_rfl) (by kernel_rfl) rfl (by kernel_rfl) (by kernel_rfl) (fun _ _ _ h => h) (Or.inl ⟨by rfl, ?_⟩) (fun _ => rfl) (by assumption) ?_
    rotate_left
    · (intro wq hSq; (try dsimp only at hSq); go_simp; try with_reducible rfl)
    try simp only [Act.put, List.setIfInBounds_toArray, List.set_cons_zero, List.set_cons_succ]
    refine wpAnyKC_takeL 14 20 (v := ?_) hro (by kernel_rfl) (by kernel_rfl) (by kernel_rfl) rfl (by kernel_rfl) (by kernel_rfl) (fun _ _ _ h => h) (Or.inl ⟨by rfl, ?_⟩) (fun _ => rfl) (by assumption) ?_
    rotate_left
    · (intro wq hSq; (try dsimp only at hSq); go_simp; try with_reducible rfl)
    try simp only [Act.put, List.setIfInBounds_toArray, List.set_cons_zero, List.set_cons_succ]
    refine wpAnyKC_stepL 15 (by kernel_rfl) rfl (fun K hK => ?_)
    go_simp
    refine hR.mono ?_
    rintro e W3 (⟨rfl, hJ3, hk3⟩ | ⟨rfl, hJx3⟩)
    · refine hK.out _ _ (fun h => by cases h) ?_
      have HK3 : Hid (KeepP (threeB b c1 c2) W W3) := HK6.out.trans hk3
      have HJ3 : Hid (J (pre ++ [(E, data)]) W3) := hJ3
      clear hK K hS6 hJ3 hk3
      try simp only [Act.put, List.setIfInBounds_toArray, List.set_cons_zero, List.set_cons_succ]
      refine wpAnyKC_stepL 16 (by kernel_rfl) rfl (fun K hK => ?_)
      go_simp
      refine hK.out _ _ (fun h => by cases h) ?_
      clear hK K
      try simp only [Act.put, List.setIfInBounds_toArray, List.set_cons_zero, List.set_cons_succ]
      refine wpAnyKC_stepL 17 (by kernel_rfl) rfl (fun K hK => ?_)
      go_simp
      refine hK.out _ _ (fun h => by cases h) ?_
      clear hK K
      try simp only [Act.put, List.setIfInBounds_toArray, List.set_cons_zero, List.set_cons_succ]
      refine wpAnyKC_end (by kernel_rfl) ?_
      gi_wp2
      go_roundw
      case rel =>
        have hEE := HE.out
        refine ⟨E, f', pre ++ [(E, data)], rfl, ?_, ?_, by omega, HR2.out, HJ3.out, HK3.out⟩
        · rw [List.length_append, List.length_singleton]; omega
        · rw [List.length_append, List.length_singleton]; omega
      case measure =>
        have hEE := HE.out
        simp [intOf]; omega
    · refine hK.out _ _ (fun h => by cases h) ?_
      have HJX3 : Hid (Jx (pre ++ [(E, data)]) W3) := hJx3
      clear hK K hS6 hJx3
      try simp only [Act.put, List.setIfInBounds_toArray, List.set_cons_zero, List.set_cons_succ]
      refine wpAnyKC_stepL 16 (by kernel_rfl) rfl (fun K hK => ?_)
      go_simp
      refine hK.out _ _ (fun h => by cases h) ?_
      clear hK K
      try simp only [Act.put, List.setIfInBounds_toArray, List.set_cons_zero, List.set_cons_succ]
      refine wpAnyKC_stepL 17 (by kernel_rfl) rfl (fun K hK => ?_)
      go_simp
      refine hK.out _ _ (fun h => by cases h) ?_
      clear hK K
      try simp only [Act.put, List.setIfInBounds_toArray, List.set_cons_zero, List.set_cons_succ]
      refine wpAnyKC_end (by kernel_rfl) ?_
      gi_wp2
      refine bodyPost_ret (results_none rfl _ _ _) rfl ?_
      exact ⟨⟨_, rfl⟩, .inr ⟨_, HJX3.out⟩⟩
end Go.Proofs.Ytjfmcobikadjhaa
