/- Walks: a disk: the end of the records. -/
import Derived.Test.YtjfmcobikadjhaaDA5
namespace Go.Proofs.Ytjfmcobikadjhaa
set_option linter.all false
open Go.RowKit Go.Shelf
attribute [local go_sem] Oper.semAt_some
theorem below_grown_none {A A' : World} (h : Below A.heap.size A A') : A.grownBy A' none := ⟨h.os, h.tape, h.output, h.size, fun k hk _ => h.block k hk⟩
theorem records_in (n b m g : Nat) (w : World) :
    CallsIn Fence.wide n Try.prog 32 #[.slice (some ⟨b, 0, none⟩) m m, .int .u64 (g : Int)] w fun e w' => e = .returned (.func (.func 46) #[] #[.pointer (some ⟨w.heap.size, 0, none⟩), .pointer (some ⟨w.heap.size + 1, 0, none⟩)]) ∧
      w' = (w.alloc (.cells #[.slice (some ⟨b, 0, none⟩) m m] 49)).alloc (.cells #[.int .u64 (g : Int)] 56) := by
  refine callsIn_of_wp Try.func32 rfl trivial ?_ rfl
  simp only [Try.ntmps32, List.size_toArray, List.length_cons, List.length_nil, Nat.reduceAdd, Nat.reduceSub, Array.replicate_succ, Array.replicate_zero, List.push_toArray, List.append_toArray, List.nil_append, List.cons_append]
  gi_wp2
  go_ret
  exact ⟨rfl, rfl⟩
theorem records_stops (n : Nat) (hn : 1 ≤ n) (b c1 c2 : Nat) (h : List UInt8) (g : Nat) (hg : g < 18446744073709551616) (h64 : 64 ≤ h.length) (hmx : h.length ≤ 262144) (w : World) (hh : HalfAt w b h)
    (h1 : w.cell? ⟨c1, 0, none⟩ = some (.slice (some ⟨b, 0, none⟩) h.length h.length)) (h2 : w.cell? ⟨c2, 0, none⟩ = some (.int .u64 (g : Int))) :
    SeqStopsK Fence.wide n Try.prog 46 #[.pointer (some ⟨c1, 0, none⟩), .pointer (some ⟨c2, 0, none⟩)] encR (KeepP (threeB b c1 c2)) (fun ys => ys = recs h g) (fun _ => True) h.length w := fun l J Jx W hW hA hAx hY h0 => by
  refine (records1 n hn l b c1 c2 h g hg h64 hmx J Jx (fun pre A A' hj hb => hA pre A A' none hj (below_grown_none hb) (fun r e => by cases e)) (fun pre A A' hj hb => hAx pre A A' none hj (below_grown_none hb) (fun r e => by cases e)) hY W
    (hh.below hW hh.lt) ((hW.cell (p := ⟨c1, 0, none⟩) (World.block_lt_of_cell? w _ h1)).trans h1) ((hW.cell (p := ⟨c2, 0, none⟩) (World.block_lt_of_cell? w _ h2)).trans h2) h0).mono ?_
  rintro e W' ⟨he, ⟨ys, hys, hj⟩ | ⟨pre, hj⟩⟩
  · exact ⟨he, .inl ⟨ys, hys, hj⟩⟩
  · exact ⟨he, .inr ⟨pre, trivial, hj⟩⟩
def lastE (l : List (Nat × List UInt8)) : Nat := (l.getLast?.map (·.1)).getD 17
theorem lastE_snoc (l : List (Nat × List UInt8)) (x : Nat × List UInt8) : lastE (l ++ [x]) = x.1 := by unfold lastE; simp
def endR (h : List UInt8) (g : Nat) : Nat := lastE (recs h g)
set_option maxRecDepth 100000 in
set_option maxHeartbeats 4000000 in
theorem end_any (b : Nat) (h : List UInt8) (g : Nat) (hg : g < 18446744073709551616) (h64 : 64 ≤ h.length) (hmx : h.length ≤ 262144) (w : World) (hh : HalfAt w b h) :
    Calls Try.prog 28 #[.slice (some ⟨b, 0, none⟩) h.length h.length, .int .u64 (g : Int)] w fun e w' => e = .returned (.int .i64 (endR h g : Int)) ∧ Below w.heap.size w w' := by
  refine (callsIn_wide (n := 5)).1 ?_
  refine callsIn_of_wp_marks Try.func28 rfl trivial ?_ rfl
  simp only [Try.ntmps28, List.size_toArray, List.length_cons, List.length_nil, Nat.reduceAdd, Nat.reduceSub, Array.replicate_succ, Array.replicate_zero, List.push_toArray, List.append_toArray, List.nil_append, List.cons_append]
  gi_wp2_with fail
  refine ⟨trivial, (records_in _ b h.length g _).mono ?_⟩
  rintro e w2 ⟨rfl, rfl⟩
  gi_wp2_with fail
  obtain ⟨m, hm⟩ : ∃ m, m = h.length := ⟨_, rfl⟩
  have hlt := hh.lt
  obtain ⟨W2, hW2e⟩ : ∃ W2, ((w.alloc (.cells #[.int .i64 17] 3)).alloc (.cells #[.slice (some ⟨b, 0, none⟩) h.length h.length] 49)).alloc (.cells #[.int .u64 (g : Int)] 56) = W2 := ⟨_, rfl⟩
  have hB2 : Below w.heap.size w W2 := by rw [← hW2e]; exact (((Below.refl _ w).alloc (Nat.le_refl _) _).alloc (by simp) _).alloc (by simp; omega) _
  have hc0 : W2.heap[w.heap.size]? = some (.cells #[.int .i64 ((lastE [] : Nat) : Int)] 3) := by
    rw [← hW2e, Below.heap_alloc _ _ _ (by simp; omega), Below.heap_alloc _ _ _ (by simp)]; exact alloc_last _ _ rfl
  have h1 : W2.cell? ⟨w.heap.size + 1, 0, none⟩ = some (.slice (some ⟨b, 0, none⟩) h.length h.length) := by
    have e : W2.heap[w.heap.size + 1]? = some (.cells #[.slice (some ⟨b, 0, none⟩) h.length h.length] 49) := by
      rw [← hW2e, Below.heap_alloc _ _ _ (by simp)]; exact alloc_last _ _ (by simp)
    simp [World.cell?, e]
  have h2 : W2.cell? ⟨w.heap.size + 1 + 1, 0, none⟩ = some (.int .u64 (g : Int)) := by
    have e : W2.heap[w.heap.size + 1 + 1]? = some (.cells #[.int .u64 (g : Int)] 56) := by
      rw [← hW2e]; exact alloc_last _ _ (by simp)
    simp [World.cell?, e]
  have hz2 : W2.heap.size = w.heap.size + 3 := by rw [← hW2e]; simp
  change Code.wpIn _ _ _ _ _ _ (((w.alloc (.cells #[.int .i64 17] 3)).alloc (.cells #[.slice (some ⟨b, 0, none⟩) h.length h.length] 49)).alloc (.cells #[.int .u64 (g : Int)] 56))
  rw [hW2e]
  have HZ := Lib.hid hz2
  clear hz2 hW2e
  refine wpIn_rangeFunc_ownF rfl (by omega) (gf := 46) (lb := #[.pointer (some ⟨w.heap.size + 1, 0, none⟩), .pointer (some ⟨w.heap.size + 1 + 1, 0, none⟩)]) rfl trivial (enters_of Try.func46 (by kernel_rfl) rfl)
    (records_stops _ (by omega) b (w.heap.size + 1) (w.heap.size + 1 + 1) h g hg h64 hmx W2 (hh.below hB2 hlt) h1 h2) (fun h k => KeepP.trans h k) (keepP_b (fun z hz => by have := HZ.out; rcases hz with rfl | rfl | rfl <;> omega)) (Below.refl _ _) (fun _ => rfl)
    (fun pre W => W.heap[w.heap.size]? = some (.cells #[.int .i64 ((lastE pre : Nat) : Int)] 3) ∧ Below w.heap.size w W ∧ w.heap.size + 3 ≤ W.heap.size)
    (fun _ _ _ => False)
    (fun q A A' row hs hg hr => ⟨(grownBy_keeps_cells hg (fun r e => (hr r e).2) hs.1 rfl).trans hs.1, (ownFrom_below (β := List (Nat × List UInt8)) (Nat.le_refl _) hB2.size) q A A' row hs.2.1 hg hr, Nat.le_trans hs.2.2 hg.size⟩)
    (fun _ _ _ _ _ hs _ _ => hs)
    ⟨hc0, hB2, by rw [HZ.out]; omega⟩
    (fun x => { tmps := #[.slice (some ⟨b, 0, none⟩) h.length h.length, .int .u64 (g : Int), undef, undef, .int .i64 0, .pointer (some ⟨w.heap.size, 0, none⟩), .int .i64 (x.1 : Int), .slice (some ⟨b, 0, none⟩) h.length h.length, .int .u64 (g : Int), .func (.func 46) #[] #[.pointer (some ⟨w.heap.size + 1, 0, none⟩), .pointer (some ⟨w.heap.size + 1 + 1, 0, none⟩)], .int .i64 (x.1 : Int), .string (bytesOf x.2), undef, undef], defers := [] }) ?assign ?body ?done ?stop
  case assign =>
    rintro l ⟨x1, x2⟩ W K hK
    simp only [encR, List.zip_toArray, List.zip_cons_cons, List.zip_nil_right, Array.zip, List.foldl_toArray]
    gi_wp2
    exact hK
  case body =>
    rintro l pre x W ⟨hc, hB, hz⟩ _
    have k0 : W.cell? ⟨w.heap.size, 0, none⟩ = some (.int .i64 ((lastE pre : Nat) : Int)) := by simp [World.cell?, hc]
    have f0 : W.frozen? ⟨w.heap.size, 0, none⟩ = false := by simp [World.frozen?, hc]
    have HC := Lib.hid hc
    clear hc hc0 h1 h2
    gi_wp2
    refine ⟨KeepsOthers.setCell _ _ _, ?_, ?_, hB.setCell (by simp) _, by simp; omega⟩
    · exact (KeepP.refl W).setCell (a := ⟨w.heap.size, 0, none⟩) (fun hz => by rcases hz with h | h | h <;> simp at h <;> omega) _
    · rw [lastE_snoc]
      simp [World.setCell, Array.getElem?_modify, HC.out]
  case done =>
    rintro D ys W hD rfl ⟨hc, hB, hz⟩ hK
    have k0 : W.cell? ⟨w.heap.size, 0, none⟩ = some (.int .i64 ((lastE (recs h g) : Nat) : Int)) := by simp [World.cell?, hc]
    gi_wp2
    refine ⟨by simp, .inl ⟨_, _, rfl, run_takeDeferred hK, ?_⟩⟩
    refine ⟨_, results_tmp rfl _ _ _, rfl, hB.trans (belowK_b (w := w) (Nat.le_refl _) W D _ _ ?_ hK rfl rfl)⟩
    have := HZ.out; omega
  case stop =>
    rintro D c pre W _ _ h _
    exact h.elim
end Go.Proofs.Ytjfmcobikadjhaa
