/- Walks: the permutation, the program's and the reference's. -/
import Derived.Test.YtfiajfjaamfeoaaWb
namespace Go.Proofs.Ytfiajfjaamfeoaa
open Go.RowKit
attribute [local go_sem] xor_wv and_wv or_wv not_wv shl_nf shr_nf
theorem rc_prog (k : Nat) (hk : k ≤ 11) : bits .or .u64 ((15 - (12 - ((k : Int) + 1))) * 16) (12 - ((k : Int) + 1)) = wv (rc (11 - k)) := by
  have H : ∀ n : Fin 12, bits .or .u64 ((15 - (12 - ((n.val : Int) + 1))) * 16) (12 - ((n.val : Int) + 1)) = wv (rc (11 - n.val)) := by decide +kernel
  exact H ⟨k, by omega⟩
set_option maxHeartbeats 1000000 in
theorem permute_any (s : St) (n : Nat) (hn : n ≤ 12) (w : World) :
    Calls Try.prog 21 #[s.val, .int .i64 (n : Int)] w fun e w' => e = .returned (St.perm n s).val ∧ Below w.heap.size w w' := by
  go_enter Try.func21, Try.ntmps21
  go_wp2
  go_loopw [5] (fun v5 wr => ∃ (k : Nat) (y : St), k ≤ 12 ∧ v5 = .int .i64 ((12 : Int) - k) ∧ St.perm k y = St.perm n s ∧
    wr.heap[w.heap.size]? = some (.cells y.cells 43) ∧ wr.heap[w.heap.size + 1]? = some (.cells #[.int .u64 0, .int .u64 0, .int .u64 0, .int .u64 0, .int .u64 0] 43) ∧ Below w.heap.size w wr) (fun v5 _ => (12 - intOf v5).toNat)
  case atStart =>
    refine ⟨n, s, hn, rfl, rfl, ?_, ?_, ?_⟩
    · rw [Below.heap_alloc _ _ _ (by simp)]; exact heap_alloc_new _ _
    · exact alloc_last _ _ (by simp)
    · repeat (with_reducible first | refine Below.alloc ?_ (by first | (simp; done) | (simp; omega)) _ | exact Below.refl _ _)
  case round =>
    obtain ⟨k, y, hk, rfl, hp, h0, h1, hb⟩ := hrel
    have Hp := Lib.hid hp
    clear hp
    obtain ⟨c0, c1, c2, c3, c4, f0, f1, f2, f3, f4, z0⟩ := five_cells h0
    obtain ⟨d0, d1, d2, d3, d4, e0, e1, e2, e3, e4, z1⟩ := five_cells h1
    rcases k with _ | k
    · go_wp2
      refine bodyPost_ret (v := y.val) ?_ rfl ⟨?_, ?_⟩
      · simp [results, Try.results21, go_sem, d0, d1, d2, d3, d4]
      · have := Hp.out
        rw [← this]; rfl
      · repeat (with_reducible first | apply below_drewN | apply Below.drew | refine Below.setCell ?_ (by first | (simp; done) | (simp; omega)) _ | refine Below.alloc ?_ (by first | (simp; done) | (simp; omega)) _ | exact hb | exact Below.refl _ _)
    · have hrc := rc_prog k (by omega)
      go_wp2_with fail
      refine (round_any y (rc (11 - k)) _).mono ?_
      rintro e w1 ⟨rfl, hb1⟩
      clear hrc
      obtain ⟨hc, hf⟩ := bcell hb1
      go_wp2
      go_roundw
      case rel =>
        refine ⟨k, y.round (rc (11 - k)), by omega, by go_num, Hp.out, ?_, ?_, ?_⟩
        · exact set_five (by rw [hb1.block _ z0]; exact h0)
        · iterate 5 rw [Below.heap_setCell _ _ _ _ (by simp)]
          rw [hb1.block _ z1]; exact h1
        · have hb2 := hb.trans (hb1.mono (by omega))
          repeat (with_reducible first | apply below_drewN | apply Below.drew | refine Below.setCell ?_ (by first | (simp; done) | (simp; omega)) _ | refine Below.alloc ?_ (by first | (simp; done) | (simp; omega)) _ | exact hb2 | exact Below.refl _ _)
      case measure => simp [intOf]; omega
theorem rc_ref (k : Nat) (hk : k ≤ 11) : (240 : Int) - 15 * (12 - ((k : Int) + 1)) = wv (rc (11 - k)) := by
  have H : ∀ n : Fin 12, (240 : Int) - 15 * (12 - ((n.val : Int) + 1)) = wv (rc (11 - n.val)) := by decide +kernel
  exact H ⟨k, by omega⟩
set_option maxHeartbeats 1000000 in
theorem permuted_any (s : St) (n : Nat) (hn : n ≤ 12) (w : World) :
    Calls Try.prog 22 #[s.val, .int .i64 (n : Int)] w fun e w' => e = .returned (St.perm n s).val ∧ Below w.heap.size w w' := by
  go_enter Try.func22, Try.ntmps22
  go_wp2
  go_loopw [5] (fun v5 wr => ∃ (k : Nat) (y : St), k ≤ 12 ∧ v5 = .int .i64 ((12 : Int) - k) ∧ St.perm k y = St.perm n s ∧
    wr.heap[w.heap.size]? = some (.cells y.cells 23) ∧ wr.heap[w.heap.size + 1]? = some (.cells #[.int .u64 0, .int .u64 0, .int .u64 0, .int .u64 0, .int .u64 0] 23) ∧ Below w.heap.size w wr) (fun v5 _ => (12 - intOf v5).toNat)
  case atStart =>
    refine ⟨n, s, hn, rfl, rfl, ?_, ?_, ?_⟩
    · rw [Below.heap_alloc _ _ _ (by simp)]; exact heap_alloc_new _ _
    · exact alloc_last _ _ (by simp)
    · repeat (with_reducible first | refine Below.alloc ?_ (by first | (simp; done) | (simp; omega)) _ | exact Below.refl _ _)
  case round =>
    obtain ⟨k, y, hk, rfl, hp, h0, h1, hb⟩ := hrel
    have Hp := Lib.hid hp
    clear hp
    obtain ⟨c0, c1, c2, c3, c4, f0, f1, f2, f3, f4, z0⟩ := five_cells h0
    obtain ⟨d0, d1, d2, d3, d4, e0, e1, e2, e3, e4, z1⟩ := five_cells h1
    rcases k with _ | k
    · go_wp2
      refine bodyPost_ret (v := y.val) ?_ rfl ⟨?_, ?_⟩
      · simp [results, Try.results22, go_sem, d0, d1, d2, d3, d4]
      · have := Hp.out
        rw [← this]; rfl
      · repeat (with_reducible first | apply below_drewN | apply Below.drew | refine Below.setCell ?_ (by first | (simp; done) | (simp; omega)) _ | refine Below.alloc ?_ (by first | (simp; done) | (simp; omega)) _ | exact hb | exact Below.refl _ _)
    · have hrc := rc_ref k (by omega)
      go_wp2_with fail
      refine (refround_any y (rc (11 - k)) _).mono ?_
      rintro e w1 ⟨rfl, hb1⟩
      clear hrc
      obtain ⟨hc, hf⟩ := bcell hb1
      go_wp2
      go_roundw
      case rel =>
        refine ⟨k, y.round (rc (11 - k)), by omega, by go_num, Hp.out, ?_, ?_, ?_⟩
        · exact set_five (by rw [hb1.block _ z0]; exact h0)
        · iterate 5 rw [Below.heap_setCell _ _ _ _ (by simp)]
          rw [hb1.block _ z1]; exact h1
        · have hb2 := hb.trans (hb1.mono (by omega))
          repeat (with_reducible first | apply below_drewN | apply Below.drew | refine Below.setCell ?_ (by first | (simp; done) | (simp; omega)) _ | refine Below.alloc ?_ (by first | (simp; done) | (simp; omega)) _ | exact hb2 | exact Below.refl _ _)
      case measure => simp [intOf]; omega


theorem Permute_bad (s : St) (n : Int) (hn : n < 1 ∨ 12 < n) (w : World) :
    Calls Try.prog 7 #[s.val, .int .i64 n] w fun e w' => e = .returned (.tuple #[.agg #[.int .u64 0, .int .u64 0, .int .u64 0, .int .u64 0, .int .u64 0], .int .i64 2]) ∧ Below w.heap.size w w' := by
  rcases hn with h | h
  · go_enter Try.func7, Try.ntmps7
    go_wp2
    refine bodyPost_ret (v := .tuple #[.agg #[.int .u64 0, .int .u64 0, .int .u64 0, .int .u64 0, .int .u64 0], .int .i64 2]) (by simp [results, Try.results7, go_sem]) rfl ⟨rfl, ?_⟩
    repeat (with_reducible first | apply below_drewN | apply Below.drew | refine Below.setCell ?_ (by first | (simp; done) | (simp; omega)) _ | refine Below.alloc ?_ (by first | (simp; done) | (simp; omega)) _ | exact hb2 | exact Below.refl _ _)
  · have h' : ¬ n < 1 := by omega
    go_enter Try.func7, Try.ntmps7
    go_wp2
    refine bodyPost_ret (v := .tuple #[.agg #[.int .u64 0, .int .u64 0, .int .u64 0, .int .u64 0, .int .u64 0], .int .i64 2]) (by simp [results, Try.results7, go_sem]) rfl ⟨rfl, ?_⟩
    repeat (with_reducible first | apply below_drewN | apply Below.drew | refine Below.setCell ?_ (by first | (simp; done) | (simp; omega)) _ | refine Below.alloc ?_ (by first | (simp; done) | (simp; omega)) _ | exact hb2 | exact Below.refl _ _)
theorem Permute_ok (s : St) (n : Int) (hn : 1 ≤ n ∧ n ≤ 12) (w : World) :
    Calls Try.prog 7 #[s.val, .int .i64 n] w fun e w' => e = .returned (.tuple #[(St.perm n.toNat s).val, .int .i64 0]) ∧ Below w.heap.size w w' := by
  obtain ⟨n, rfl⟩ := Int.eq_ofNat_of_zero_le (show 0 ≤ n by omega)
  rw [Int.toNat_natCast]
  go_enter Try.func7, Try.ntmps7
  go_wp2_with fail
  refine (permute_any s n (by omega) _).mono ?_
  rintro e w1 ⟨rfl, hb1⟩
  obtain ⟨hc, hf⟩ := bcell hb1
  have hz : w.heap.size + 1 < w1.heap.size := by have := hb1.size; simp at this; omega
  have hb2 : Below w.heap.size w w1 := (((Below.refl _ _).alloc (Nat.le_refl _) _).alloc (by simp) _).trans (hb1.mono (by simp; omega))
  go_wp2
  refine bodyPost_ret (v := .tuple #[(St.perm n s).val, .int .i64 0]) (by simp [results, Try.results7, go_sem, hc]) rfl ⟨rfl, ?_⟩
  repeat (with_reducible first | apply below_drewN | apply Below.drew | refine Below.setCell ?_ (by first | (simp; done) | (simp; omega)) _ | refine Below.alloc ?_ (by first | (simp; done) | (simp; omega)) _ | exact hb2 | exact Below.refl _ _)

theorem refPermute_bad (s : St) (n : Int) (hn : n < 1 ∨ 12 < n) (w : World) :
    Calls Try.prog 8 #[s.val, .int .i64 n] w fun e w' => e = .returned (.tuple #[.agg #[.int .u64 0, .int .u64 0, .int .u64 0, .int .u64 0, .int .u64 0], .int .i64 2]) ∧ Below w.heap.size w w' := by
  rcases hn with h | h
  · go_enter Try.func8, Try.ntmps8
    go_wp2
    refine bodyPost_ret (v := .tuple #[.agg #[.int .u64 0, .int .u64 0, .int .u64 0, .int .u64 0, .int .u64 0], .int .i64 2]) (by simp [results, Try.results8, go_sem]) rfl ⟨rfl, ?_⟩
    repeat (with_reducible first | apply below_drewN | apply Below.drew | refine Below.setCell ?_ (by first | (simp; done) | (simp; omega)) _ | refine Below.alloc ?_ (by first | (simp; done) | (simp; omega)) _ | exact hb2 | exact Below.refl _ _)
  · have h' : ¬ n < 1 := by omega
    go_enter Try.func8, Try.ntmps8
    go_wp2
    refine bodyPost_ret (v := .tuple #[.agg #[.int .u64 0, .int .u64 0, .int .u64 0, .int .u64 0, .int .u64 0], .int .i64 2]) (by simp [results, Try.results8, go_sem]) rfl ⟨rfl, ?_⟩
    repeat (with_reducible first | apply below_drewN | apply Below.drew | refine Below.setCell ?_ (by first | (simp; done) | (simp; omega)) _ | refine Below.alloc ?_ (by first | (simp; done) | (simp; omega)) _ | exact hb2 | exact Below.refl _ _)
theorem refPermute_ok (s : St) (n : Int) (hn : 1 ≤ n ∧ n ≤ 12) (w : World) :
    Calls Try.prog 8 #[s.val, .int .i64 n] w fun e w' => e = .returned (.tuple #[(St.perm n.toNat s).val, .int .i64 0]) ∧ Below w.heap.size w w' := by
  obtain ⟨n, rfl⟩ := Int.eq_ofNat_of_zero_le (show 0 ≤ n by omega)
  rw [Int.toNat_natCast]
  go_enter Try.func8, Try.ntmps8
  go_wp2_with fail
  refine (permuted_any s n (by omega) _).mono ?_
  rintro e w1 ⟨rfl, hb1⟩
  obtain ⟨hc, hf⟩ := bcell hb1
  have hz : w.heap.size + 1 < w1.heap.size := by have := hb1.size; simp at this; omega
  have hb2 : Below w.heap.size w w1 := (((Below.refl _ _).alloc (Nat.le_refl _) _).alloc (by simp) _).trans (hb1.mono (by simp; omega))
  go_wp2
  refine bodyPost_ret (v := .tuple #[(St.perm n s).val, .int .i64 0]) (by simp [results, Try.results8, go_sem, hc]) rfl ⟨rfl, ?_⟩
  repeat (with_reducible first | apply below_drewN | apply Below.drew | refine Below.setCell ?_ (by first | (simp; done) | (simp; omega)) _ | refine Below.alloc ?_ (by first | (simp; done) | (simp; omega)) _ | exact hb2 | exact Below.refl _ _)
end Go.Proofs.Ytfiajfjaamfeoaa
