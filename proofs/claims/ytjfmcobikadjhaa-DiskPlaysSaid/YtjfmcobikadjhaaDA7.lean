/- Walks: a disk: its records. -/
import Derived.Test.YtjfmcobikadjhaaDA6
namespace Go.Proofs.Ytjfmcobikadjhaa
set_option linter.all false
open Go.RowKit Go.Shelf
attribute [local go_sem] Oper.semAt_some
theorem infoStr : (Try.prog.info? 9).map (fun i => (i.zero, i.size, i.bytes)) = some (some (.string ByteArray.empty), 1, 16) := by kernel_rfl
def strV (l : List UInt8) : Value := .string (bytesOf l)
theorem owns_isCells {w : World} {base : Nat} {e : TypeId} {v : Value} {n : Nat} {xs : List Value} (h : w.owns base e 1 v n xs) (j : Nat) (o : Obj) (hj : v.ownBlock = some j) (ho : w.heap[j]? = some o) : o.isCells = true := by
  rcases h.2 with ⟨rfl, _⟩ | ⟨g, cap, cur, fz, rfl, _, hg, _⟩
  · simp [Value.ownBlock] at hj
  · simp [Value.ownBlock] at hj
    subst hj
    rw [hg] at ho; injection ho with ho; subst ho; rfl
theorem one_str (l : List UInt8) : (strV l).oneCell' = true := rfl
def Dk.act (d : Dk) : List UInt8 := if d.half = 1 then d.h1 else d.h0
def Dk.texts (d : Dk) : List (List UInt8) := if d.half < 0 then [] else (recs d.act d.gen).map (·.2)
def Dk.seenErr (d : Dk) : Int := if d.half < 0 then 4 else 0
theorem genL_lt (h : List UInt8) : genL h < 9223372036854775808 := by
  unfold genL genB
  split
  · rename_i h1
    simp only [Bool.and_eq_true, decide_eq_true_eq] at h1
    exact h1.1.2
  · omega
theorem Dk.gen_lt (d : Dk) : d.gen < 9223372036854775808 := by
  have h0 := genL_lt d.h0
  have h1 := genL_lt d.h1
  unfold Dk.gen
  split
  · omega
  · split <;> omega
theorem Dk.half_cases (d : Dk) : d.half = -1 ∨ d.half = 0 ∨ d.half = 1 := by
  unfold Dk.half
  split
  · exact .inl rfl
  · split
    · exact .inr (.inr rfl)
    · exact .inr (.inl rfl)
set_option maxRecDepth 100000 in
set_option maxHeartbeats 4000000 in
theorem Records_any (p b0 b1 : Nat) (d : Dk) (w : World) (hd : DiskAt w p b0 b1 d) (ho : d.ok) :
    Calls Try.prog 16 #[.pointer (some ⟨p, 0, none⟩)] w fun e w' => (∃ v, e = .returned (.tuple #[v, .int .i64 d.seenErr]) ∧ w'.reads w'.heap.size v (d.texts.map strV) ∧ (∀ k, v.ownBlock = some k → w.heap.size ≤ k)) ∧ Below w.heap.size w w' := by
  have HACT := Lib.hid (active_any p b0 b1 d w hd ho)
  obtain ⟨k0, k1, -, -, -, -⟩ := four_cells hd.at_
  have HNO := Lib.hid (none_no p b0 d.size d.size w k0)
  have hpl := lt_of_heap hd.at_
  have HD := Lib.hid hd
  have HO := Lib.hid ho
  obtain ⟨r, hr⟩ : ∃ r, r = d.seenErr := ⟨_, rfl⟩
  rw [← hr]
  have HR := Lib.hid hr
  obtain ⟨x, hx⟩ : ∃ x, x = d.half := ⟨_, rfl⟩
  obtain ⟨y, hy⟩ : ∃ y, y = d.gen := ⟨_, rfl⟩
  rw [← hx, ← hy] at HACT
  have HX := Lib.hid hx
  have HY := Lib.hid hy
  have hyl : y < 18446744073709551616 := by have := d.gen_lt; omega
  clear hd ho hr hx hy
  refine (callsIn_wide (n := 5)).1 ?_
  refine callsIn_of_wp_marks Try.func16 rfl trivial ?_ rfl
  simp only [Try.ntmps16, List.size_toArray, List.length_cons, List.length_nil, Nat.reduceAdd, Nat.reduceSub, Array.replicate_succ, Array.replicate_zero, List.push_toArray, List.append_toArray, List.nil_append, List.cons_append]
  gi_wp2_with fail
  refine ⟨trivial, (callsIn_wide.2 HNO.out).mono ?_⟩
  rintro e w1 ⟨rfl, rfl⟩
  gi_wp2_with fail
  refine ⟨trivial, (callsIn_wide.2 HACT.out).mono ?_⟩
  rintro e w2 ⟨rfl, hb2⟩
  have hd2 := HD.out.kept hb2
  have HD2 := Lib.hid hd2
  clear k0 k1
  obtain ⟨k0, k1, -, -, -, -⟩ := four_cells hd2.at_
  clear hd2
  have hc : x = -1 ∨ x = 0 ∨ x = 1 := by rw [HX.out]; exact d.half_cases
  rcases hc with rfl | hx01
  · obtain rfl : r = 4 := by rw [HR.out]; unfold Dk.seenErr; rw [← HX.out]; rfl
    gi_wp2
    refine postM_ret (v := .tuple #[.slice none 0 0, .int .i64 4]) (by simp [results, Try.results16, go_sem]) rfl ⟨⟨_, rfl, ?_, fun k e => by simp [Value.ownBlock] at e⟩, hb2⟩
    have ht : d.texts = [] := by unfold Dk.texts; rw [← HX.out]; rfl
    rw [ht]
    exact reads_nil _ _
  have lp2 : p < w2.heap.size := by have := hb2.size; omega
  have np2 : ¬ p = w2.heap.size := by omega
  have np3 : ¬ w2.heap.size = p := by omega
  rcases hx01 with rfl | rfl
  · have HACTE : Hid (d.act = d.h0) := by show _ = _; unfold Dk.act; rw [← HX.out]; rfl
    obtain rfl : r = 0 := by rw [HR.out]; unfold Dk.seenErr; rw [← HX.out]; rfl
    have hhw := HD2.out.a0
    have hlt := hhw.lt
    have hlen : d.h0.length = d.size := HO.out.l0
    have h64 := HO.out.lo
    have hmx := HO.out.hi
    gi_wp2_with fail
    refine ⟨trivial, (records_in _ _ d.size y _).mono ?_⟩
    rintro e w3 ⟨rfl, rfl⟩
    gi_wp2_with fail
    obtain ⟨W2, hW2e⟩ : ∃ W2, ((w2.alloc (.cells #[.slice none 0 0] 30)).alloc (.cells #[.slice (some ⟨b0, 0, none⟩) d.size d.size] 49)).alloc (.cells #[.int .u64 (y : Int)] 56) = W2 := ⟨_, rfl⟩
    have hB2 : Below w2.heap.size w2 W2 := by rw [← hW2e]; exact (((Below.refl _ w2).alloc (Nat.le_refl _) _).alloc (by simp) _).alloc (by simp; omega) _
    have hc0 : W2.heap[w2.heap.size]? = some (.cells #[.slice none 0 0] 30) := by
      rw [← hW2e, Below.heap_alloc _ _ _ (by simp; omega), Below.heap_alloc _ _ _ (by simp)]; exact alloc_last _ _ rfl
    have h1 : W2.cell? ⟨w2.heap.size + 1, 0, none⟩ = some (.slice (some ⟨b0, 0, none⟩) d.size d.size) := by
      have e : W2.heap[w2.heap.size + 1]? = some (.cells #[.slice (some ⟨b0, 0, none⟩) d.size d.size] 49) := by
        rw [← hW2e, Below.heap_alloc _ _ _ (by simp)]; exact alloc_last _ _ (by simp)
      simp [World.cell?, e]
    have h2 : W2.cell? ⟨w2.heap.size + 1 + 1, 0, none⟩ = some (.int .u64 (y : Int)) := by
      have e : W2.heap[w2.heap.size + 1 + 1]? = some (.cells #[.int .u64 (y : Int)] 56) := by
        rw [← hW2e]; exact alloc_last _ _ (by simp)
      simp [World.cell?, e]
    have hz2 : W2.heap.size = w2.heap.size + 3 := by rw [← hW2e]; simp
    change Code.wpIn _ _ _ _ _ _ (((w2.alloc (.cells #[.slice none 0 0] 30)).alloc (.cells #[.slice (some ⟨b0, 0, none⟩) d.size d.size] 49)).alloc (.cells #[.int .u64 (y : Int)] 56))
    rw [hW2e]
    have HZ := Lib.hid hz2
    clear hz2 hW2e
    obtain ⟨i0, hi0, hiz, hiz1, hizb⟩ := info_parts infoStr
    rw [← hlen] at h1 h64 hmx
    have hst := records_stops 4 (by omega) b0 (w2.heap.size + 1) (w2.heap.size + 1 + 1) d.h0 y hyl h64 hmx W2 (hhw.below hB2 hlt) h1 h2
    rw [hlen] at h1 h64 hmx hst
    have hmx' : d.size ≤ 262144 := hmx
    refine wpIn_rangeFunc_ownF rfl (by omega) (gf := 46) (lb := #[.pointer (some ⟨w2.heap.size + 1, 0, none⟩), .pointer (some ⟨w2.heap.size + 1 + 1, 0, none⟩)]) rfl trivial (enters_of Try.func46 (by kernel_rfl) rfl)
      hst (fun h k => KeepP.trans h k) (keepP_b (fun z hz => by have := HZ.out; rcases hz with rfl | rfl | rfl <;> omega)) (Below.refl _ _) (fun _ => rfl)
      (fun pre W => ∃ v, W.heap[w2.heap.size]? = some (.cells #[v] 30) ∧ W.owns (w2.heap.size + 3) 9 1 v pre.length (pre.map fun q => strV q.2) ∧ Below w2.heap.size w2 W ∧ w2.heap.size + 3 ≤ W.heap.size)
      (fun _ _ _ => False)
      (fun q A A' row hs hg hr => by
        obtain ⟨v, s1, s2, s3, s4⟩ := hs
        refine ⟨v, (grownBy_keeps_cells hg (fun r e => (hr r e).2) s1 rfl).trans s1, s2.kept hg ?_, (ownFrom_below (β := List (Nat × List UInt8)) (Nat.le_refl _) hB2.size) q A A' row s3 hg hr, Nat.le_trans s4 hg.size⟩
        cases ho : v.ownBlock with
        | none => exact .inl rfl
        | some k =>
          refine .inr (fun e => ?_)
          obtain ⟨-, o, ho1, ho2⟩ := hr k e.symm
          have := owns_isCells s2 k o ho ho1
          rw [ho2] at this; cases this)
      (fun _ _ _ _ _ hs _ _ => hs)
      ⟨_, hc0, World.owns_nil _ _ _ _, hB2, by rw [HZ.out]; omega⟩
      (fun q => { tmps := #[.pointer (some ⟨p, 0, none⟩), undef, .slice none 0 0, .int .i64 0, .int .i64 0, .int .u64 (y : Int), .pointer (some ⟨w2.heap.size, 0, none⟩), undef, .string (bytesOf q.2), .pointer (some ⟨p, 0, none⟩), .bool false, .tuple #[.int .i64 0, .int .u64 (y : Int)], .pointer (some ⟨p, 0, none⟩), .tuple #[.int .i64 0, .int .u64 (y : Int)], .int .i64 0, .int .u64 (y : Int), .int .i64 0, .bool false, .pointer (some ⟨p, 0, none⟩), .int .i64 0, .pointer (some ⟨p, 0, none⟩), .pointer (some ⟨p, 0, none⟩), .pointer (some ⟨p, 0, none⟩), .slice (some ⟨b0, 0, none⟩) d.size d.size, .int .u64 (y : Int), .func (.func 46) #[] #[.pointer (some ⟨w2.heap.size + 1, 0, none⟩), .pointer (some ⟨w2.heap.size + 1 + 1, 0, none⟩)], .int .i64 (q.1 : Int), .string (bytesOf q.2), undef, undef, undef, undef, undef], defers := [] }) ?assign ?body ?done ?stop
    case assign =>
      rintro l ⟨x1, x2⟩ W K hK
      simp only [encR, List.zip_toArray, List.zip_cons_cons, List.zip_nil_right, Array.zip, List.foldl_toArray]
      gi_wp2
      exact hK
    case body =>
      rintro l pre ⟨x1, x2⟩ W ⟨v, hc, hown, hB, hz⟩ hpre
      have k0' : W.cell? ⟨w2.heap.size, 0, none⟩ = some v := by simp [World.cell?, hc]
      have HC := Lib.hid hc
      have HOW := Lib.hid hown
      clear hc hc0 h1 h2 hown k0 k1
      gi_wp2_with (gi_at_builtin; refine wpListIn_append1 W rfl (.tmp 28) (.tmp 30) 30 rfl (w2.heap.size + 3) 9 i0 (.string ByteArray.empty) 16 Try.underlying30 hi0 hiz hiz1 hizb rfl v pre.length (pre.map fun q => strV q.2) rfl HOW.out (strV x2) W.heap.size rfl rfl rfl (by unfold maxLen; omega) (by omega) (by omega) ?_; intro v4 w4 hown4 hg4a hg4 hz4; obtain ⟨g4, q4, rfl⟩ := hown4.succ; have hc4 : w4.heap[w2.heap.size]? = some (.cells #[v] 30) := (hg4.block _ (by omega) (fun e => by have := HOW.out.lt _ e.symm; omega)).trans HC.out; have k4 : w4.cell? ⟨w2.heap.size, 0, none⟩ = some v := (by simp [World.cell?, hc4]); have f4 : w4.frozen? ⟨w2.heap.size, 0, none⟩ = false := (by simp [World.frozen?, hc4]); have HC4 := Lib.hid hc4; have HO4 := Lib.hid hown4; have HG4 := Lib.hid hg4; clear hown4 hg4 hg4a hc4)
      refine ⟨(KeepsOthers.of_grownBy HG4.out (fun j o hj ho => owns_isCells HOW.out j o hj ho)).trans (KeepsOthers.setCell _ _ _), ?_, .slice (some ⟨g4, 0, none⟩) (pre.length + 1) q4, ?_, ?_, ?_, ?_⟩
      · refine KeepP.setCell ?_ (fun hz => by rcases hz with h | h | h <;> simp at h <;> omega) _
        exact (KeepP.refl W).grown HG4.out (fun z hz => by have := HZ.out; rcases hz with rfl | rfl | rfl <;> omega) (fun r hr hz => by have := HOW.out.lt _ hr; rcases hz with rfl | rfl | rfl <;> omega)
      · simp [World.setCell, Array.getElem?_modify, HC4.out]
      · have h4 := HO4.out.setCell (a := ⟨w2.heap.size, 0, none⟩) (show w2.heap.size < w2.heap.size + 3 by omega) (.slice (some ⟨g4, 0, none⟩) (pre.length + 1) q4)
        rw [List.length_append, List.map_append]
        exact h4
      · exact (hB.grown HG4.out hB.size (fun k e => by have := HOW.out.lt _ e; omega)).setCell (by simp) _
      · simp; omega
    case done =>
      rintro D ys W hD rfl ⟨v, hc, hown, hB, hz⟩ hK
      have k0' : W.cell? ⟨w2.heap.size, 0, none⟩ = some v := by simp [World.cell?, hc]
      gi_wp2
      refine postM_mark (v := .tuple #[v, .int .i64 0]) hK (by simp [results, Try.results16, go_sem]) rfl ⟨⟨v, rfl, ?_, fun k e => (by have := hown.lt _ e; have := hb2.size; omega)⟩, hb2.trans ((hB.trans (belowK_b (w := w2) (Nat.le_refl _) W D _ _ (by have := HZ.out; omega) hK rfl rfl)).mono hb2.size)⟩
      have ht : d.texts = (recs d.h0 y).map (·.2) := by unfold Dk.texts; rw [HACTE.out, ← HX.out, ← HY.out]; rfl
      rw [ht, List.map_map]
      have hk := hown.kept (grownBy_putObj' W D (.deferred none)) (.inr (fun e => by
        have h5 := owns_isCells hown D _ e hK
        cases h5))
      exact hk.reads
    case stop =>
      rintro D c pre W _ _ h _
      exact h.elim
  · have HACTE : Hid (d.act = d.h1) := by show _ = _; unfold Dk.act; rw [← HX.out]; rfl
    obtain rfl : r = 0 := by rw [HR.out]; unfold Dk.seenErr; rw [← HX.out]; rfl
    have hhw := HD2.out.a1
    have hlt := hhw.lt
    have hlen : d.h1.length = d.size := HO.out.l1
    have h64 := HO.out.lo
    have hmx := HO.out.hi
    gi_wp2_with fail
    refine ⟨trivial, (records_in _ _ d.size y _).mono ?_⟩
    rintro e w3 ⟨rfl, rfl⟩
    gi_wp2_with fail
    obtain ⟨W2, hW2e⟩ : ∃ W2, ((w2.alloc (.cells #[.slice none 0 0] 30)).alloc (.cells #[.slice (some ⟨b1, 0, none⟩) d.size d.size] 49)).alloc (.cells #[.int .u64 (y : Int)] 56) = W2 := ⟨_, rfl⟩
    have hB2 : Below w2.heap.size w2 W2 := by rw [← hW2e]; exact (((Below.refl _ w2).alloc (Nat.le_refl _) _).alloc (by simp) _).alloc (by simp; omega) _
    have hc0 : W2.heap[w2.heap.size]? = some (.cells #[.slice none 0 0] 30) := by
      rw [← hW2e, Below.heap_alloc _ _ _ (by simp; omega), Below.heap_alloc _ _ _ (by simp)]; exact alloc_last _ _ rfl
    have h1 : W2.cell? ⟨w2.heap.size + 1, 0, none⟩ = some (.slice (some ⟨b1, 0, none⟩) d.size d.size) := by
      have e : W2.heap[w2.heap.size + 1]? = some (.cells #[.slice (some ⟨b1, 0, none⟩) d.size d.size] 49) := by
        rw [← hW2e, Below.heap_alloc _ _ _ (by simp)]; exact alloc_last _ _ (by simp)
      simp [World.cell?, e]
    have h2 : W2.cell? ⟨w2.heap.size + 1 + 1, 0, none⟩ = some (.int .u64 (y : Int)) := by
      have e : W2.heap[w2.heap.size + 1 + 1]? = some (.cells #[.int .u64 (y : Int)] 56) := by
        rw [← hW2e]; exact alloc_last _ _ (by simp)
      simp [World.cell?, e]
    have hz2 : W2.heap.size = w2.heap.size + 3 := by rw [← hW2e]; simp
    change Code.wpIn _ _ _ _ _ _ (((w2.alloc (.cells #[.slice none 0 0] 30)).alloc (.cells #[.slice (some ⟨b1, 0, none⟩) d.size d.size] 49)).alloc (.cells #[.int .u64 (y : Int)] 56))
    rw [hW2e]
    have HZ := Lib.hid hz2
    clear hz2 hW2e
    obtain ⟨i0, hi0, hiz, hiz1, hizb⟩ := info_parts infoStr
    rw [← hlen] at h1 h64 hmx
    have hst := records_stops 4 (by omega) b1 (w2.heap.size + 1) (w2.heap.size + 1 + 1) d.h1 y hyl h64 hmx W2 (hhw.below hB2 hlt) h1 h2
    rw [hlen] at h1 h64 hmx hst
    have hmx' : d.size ≤ 262144 := hmx
    refine wpIn_rangeFunc_ownF rfl (by omega) (gf := 46) (lb := #[.pointer (some ⟨w2.heap.size + 1, 0, none⟩), .pointer (some ⟨w2.heap.size + 1 + 1, 0, none⟩)]) rfl trivial (enters_of Try.func46 (by kernel_rfl) rfl)
      hst (fun h k => KeepP.trans h k) (keepP_b (fun z hz => by have := HZ.out; rcases hz with rfl | rfl | rfl <;> omega)) (Below.refl _ _) (fun _ => rfl)
      (fun pre W => ∃ v, W.heap[w2.heap.size]? = some (.cells #[v] 30) ∧ W.owns (w2.heap.size + 3) 9 1 v pre.length (pre.map fun q => strV q.2) ∧ Below w2.heap.size w2 W ∧ w2.heap.size + 3 ≤ W.heap.size)
      (fun _ _ _ => False)
      (fun q A A' row hs hg hr => by
        obtain ⟨v, s1, s2, s3, s4⟩ := hs
        refine ⟨v, (grownBy_keeps_cells hg (fun r e => (hr r e).2) s1 rfl).trans s1, s2.kept hg ?_, (ownFrom_below (β := List (Nat × List UInt8)) (Nat.le_refl _) hB2.size) q A A' row s3 hg hr, Nat.le_trans s4 hg.size⟩
        cases ho : v.ownBlock with
        | none => exact .inl rfl
        | some k =>
          refine .inr (fun e => ?_)
          obtain ⟨-, o, ho1, ho2⟩ := hr k e.symm
          have := owns_isCells s2 k o ho ho1
          rw [ho2] at this; cases this)
      (fun _ _ _ _ _ hs _ _ => hs)
      ⟨_, hc0, World.owns_nil _ _ _ _, hB2, by rw [HZ.out]; omega⟩
      (fun q => { tmps := #[.pointer (some ⟨p, 0, none⟩), undef, .slice none 0 0, .int .i64 0, .int .i64 1, .int .u64 (y : Int), .pointer (some ⟨w2.heap.size, 0, none⟩), undef, .string (bytesOf q.2), .pointer (some ⟨p, 0, none⟩), .bool false, .tuple #[.int .i64 1, .int .u64 (y : Int)], .pointer (some ⟨p, 0, none⟩), .tuple #[.int .i64 1, .int .u64 (y : Int)], .int .i64 1, .int .u64 (y : Int), .int .i64 1, .bool false, .pointer (some ⟨p, 0, none⟩), .int .i64 1, .pointer (some ⟨p, 0, none⟩), .pointer (some ⟨p, 0, none⟩), .pointer (some ⟨p, 1, none⟩), .slice (some ⟨b1, 0, none⟩) d.size d.size, .int .u64 (y : Int), .func (.func 46) #[] #[.pointer (some ⟨w2.heap.size + 1, 0, none⟩), .pointer (some ⟨w2.heap.size + 1 + 1, 0, none⟩)], .int .i64 (q.1 : Int), .string (bytesOf q.2), undef, undef, undef, undef, undef], defers := [] }) ?assign ?body ?done ?stop
    case assign =>
      rintro l ⟨x1, x2⟩ W K hK
      simp only [encR, List.zip_toArray, List.zip_cons_cons, List.zip_nil_right, Array.zip, List.foldl_toArray]
      gi_wp2
      exact hK
    case body =>
      rintro l pre ⟨x1, x2⟩ W ⟨v, hc, hown, hB, hz⟩ hpre
      have k0' : W.cell? ⟨w2.heap.size, 0, none⟩ = some v := by simp [World.cell?, hc]
      have HC := Lib.hid hc
      have HOW := Lib.hid hown
      clear hc hc0 h1 h2 hown k0 k1
      gi_wp2_with (gi_at_builtin; refine wpListIn_append1 W rfl (.tmp 28) (.tmp 30) 30 rfl (w2.heap.size + 3) 9 i0 (.string ByteArray.empty) 16 Try.underlying30 hi0 hiz hiz1 hizb rfl v pre.length (pre.map fun q => strV q.2) rfl HOW.out (strV x2) W.heap.size rfl rfl rfl (by unfold maxLen; omega) (by omega) (by omega) ?_; intro v4 w4 hown4 hg4a hg4 hz4; obtain ⟨g4, q4, rfl⟩ := hown4.succ; have hc4 : w4.heap[w2.heap.size]? = some (.cells #[v] 30) := (hg4.block _ (by omega) (fun e => by have := HOW.out.lt _ e.symm; omega)).trans HC.out; have k4 : w4.cell? ⟨w2.heap.size, 0, none⟩ = some v := (by simp [World.cell?, hc4]); have f4 : w4.frozen? ⟨w2.heap.size, 0, none⟩ = false := (by simp [World.frozen?, hc4]); have HC4 := Lib.hid hc4; have HO4 := Lib.hid hown4; have HG4 := Lib.hid hg4; clear hown4 hg4 hg4a hc4)
      refine ⟨(KeepsOthers.of_grownBy HG4.out (fun j o hj ho => owns_isCells HOW.out j o hj ho)).trans (KeepsOthers.setCell _ _ _), ?_, .slice (some ⟨g4, 0, none⟩) (pre.length + 1) q4, ?_, ?_, ?_, ?_⟩
      · refine KeepP.setCell ?_ (fun hz => by rcases hz with h | h | h <;> simp at h <;> omega) _
        exact (KeepP.refl W).grown HG4.out (fun z hz => by have := HZ.out; rcases hz with rfl | rfl | rfl <;> omega) (fun r hr hz => by have := HOW.out.lt _ hr; rcases hz with rfl | rfl | rfl <;> omega)
      · simp [World.setCell, Array.getElem?_modify, HC4.out]
      · have h4 := HO4.out.setCell (a := ⟨w2.heap.size, 0, none⟩) (show w2.heap.size < w2.heap.size + 3 by omega) (.slice (some ⟨g4, 0, none⟩) (pre.length + 1) q4)
        rw [List.length_append, List.map_append]
        exact h4
      · exact (hB.grown HG4.out hB.size (fun k e => by have := HOW.out.lt _ e; omega)).setCell (by simp) _
      · simp; omega
    case done =>
      rintro D ys W hD rfl ⟨v, hc, hown, hB, hz⟩ hK
      have k0' : W.cell? ⟨w2.heap.size, 0, none⟩ = some v := by simp [World.cell?, hc]
      gi_wp2
      refine postM_mark (v := .tuple #[v, .int .i64 0]) hK (by simp [results, Try.results16, go_sem]) rfl ⟨⟨v, rfl, ?_, fun k e => (by have := hown.lt _ e; have := hb2.size; omega)⟩, hb2.trans ((hB.trans (belowK_b (w := w2) (Nat.le_refl _) W D _ _ (by have := HZ.out; omega) hK rfl rfl)).mono hb2.size)⟩
      have ht : d.texts = (recs d.h1 y).map (·.2) := by unfold Dk.texts; rw [HACTE.out, ← HX.out, ← HY.out]; rfl
      rw [ht, List.map_map]
      have hk := hown.kept (grownBy_putObj' W D (.deferred none)) (.inr (fun e => by
        have h5 := owns_isCells hown D _ e hK
        cases h5))
      exact hk.reads
    case stop =>
      rintro D c pre W _ _ h _
      exact h.elim
end Go.Proofs.Ytjfmcobikadjhaa
