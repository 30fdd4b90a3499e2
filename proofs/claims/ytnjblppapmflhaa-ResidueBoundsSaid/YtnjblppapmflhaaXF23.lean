/- Wide integers: helpers and walks, in one text (XF2 XF3). -/
import Derived.Test.YtnjblppapmflhaaXF1
/- Walks: the integer of 64 bits of a form: the reference's. -/
namespace Go.Proofs.Ytnjblppapmflhaa
set_option linter.all false
open Go.RowKit Go.Shelf Go.WideNum
end Go.Proofs.Ytnjblppapmflhaa

/- Walks: the form of an integer of 64 bits: the reference's. -/
namespace Go.Proofs.Ytnjblppapmflhaa
set_option linter.all false
open Go.RowKit Go.Shelf Go.WideNum
set_option maxRecDepth 100000 in
set_option maxHeartbeats 8000000 in
theorem refOf_any (n : Int) (h1 : -9223372036854775808 ≤ n) (h2 : n < 9223372036854775808) (fb : Bool) (ft : ByteArray) (hout : outZ n = .agg #[.bool fb, .string ft]) (w : World) :
    Calls Try.prog 24 #[.int .i64 n] w fun e w' => e = .returned (.agg #[.bool fb, .string ft]) ∧ Below w.heap.size w w' := by
  obtain ⟨HPOST, hpost⟩ : ∃ X : Ending → World → Prop, X = fun e w' => e = .returned (.agg #[.bool fb, .string ft]) ∧ Below w.heap.size w w' := ⟨_, rfl⟩
  rw [← hpost]
  have HP := Lib.hid hpost
  clear hpost
  obtain ⟨m, hm⟩ : ∃ m, m = n.natAbs := ⟨_, rfl⟩
  obtain ⟨sg, hsg⟩ : ∃ b, b = decide (n < 0) := ⟨_, rfl⟩
  have hzo : zOf sg m = n := by
    rw [hsg, hm]; unfold zOf
    by_cases h : n < 0
    · simp [h]; omega
    · simp [h]; omega
  have hm64 : m < 18446744073709551616 := by omega
  have hml : (hw m).length ≤ 4 := hw_len_le (by omega)
  have HOUT : Hid (∀ v W, World.numH W v m → Calls Try.prog 55 #[.agg #[.bool sg, v]] W fun e w' => e = .returned (.tuple #[.agg #[.bool fb, .string ft], .int .i64 (errZ n)]) ∧ Below W.heap.size W w') := fun v W h => hout_num sg m (by omega) fb ft (errZ n) (by rw [hzo]; exact hout) (by rw [hzo]) v W h
  obtain ⟨EE, hEE⟩ : ∃ EE, EE = errZ n := ⟨_, rfl⟩
  rw [← hEE] at HOUT
  have HML := Lib.hid hml
  have hcase : (n < 0 ∧ sg = true ∧ IntKind.u64.wrap (-(IntKind.u64.wrap n)) = (m : Int)) ∨ (¬ n < 0 ∧ sg = false ∧ IntKind.u64.wrap n = (m : Int)) := by
    by_cases h : n < 0
    · left
      refine ⟨h, by rw [hsg, decide_eq_true h], ?_⟩
      rw [IntKind.wrap_u64, IntKind.wrap_u64]; omega
    · right
      refine ⟨h, by rw [hsg, decide_eq_false h], ?_⟩
      rw [IntKind.wrap_u64]; omega
  have HCASE := Lib.hid hcase
  clear hcase hsg hzo hout hEE hml
  obtain ⟨W0, hW0⟩ : ∃ W0, W0 = (w.alloc (.cells #[.bool false, .string ⟨#[]⟩] 38)).alloc (.cells #[.bool sg, .slice none 0 0] 86) := ⟨_, rfl⟩
  have g0 : W0.heap[w.heap.size]? = some (.cells #[.bool false, .string ⟨#[]⟩] 38) := by rw [hW0, Below.heap_alloc _ _ _ (by simp)]; exact heap_alloc_new w _
  have g1 : W0.heap[w.heap.size + 1]? = some (.cells #[.bool sg, .slice none 0 0] 86) := by rw [hW0]; exact alloc_last _ _ (by simp)
  have hb0 : Below w.heap.size w W0 := by rw [hW0]; exact (((Below.refl _ w).alloc (Nat.le_refl _) _).alloc (by simp) _)
  have hz0 : W0.heap.size = w.heap.size + 1 + 1 := by rw [hW0]; simp
  have HB0 := Lib.hid hb0
  have HG0 := Lib.hid g0
  have HG1 := Lib.hid g1
  have HZ0 := Lib.hid hz0
  have HW0 := Lib.hid hW0
  clear hb0 g0 g1 hz0 hW0
  go_enter Try.func24, Try.ntmps24
  go_upto_if 13 with (fail)
  go_cut [4] (fun nv wx => nv = .int .u64 (m : Int) ∧ wx = W0)
  case first =>
    rcases HCASE.out with ⟨hn, hsg, hu⟩ | ⟨hn, hsg, hu⟩
    · have hd : decide (n < 0) = true := decide_eq_true hn
      subst hsg
      clear hm
      go_wp2
      go_meet
      case rel => exact ⟨by first | rfl | rw [hu], HW0.out.symm⟩
    · have hd : decide (n < 0) = false := decide_eq_false hn
      subst hsg
      clear hm
      go_wp2
      go_meet
      case rel => exact ⟨by first | rfl | rw [hu], HW0.out.symm⟩
  case rest =>
    obtain ⟨rfl, rfl⟩ := hcut
    obtain ⟨M, hM⟩ : ∃ M, M = (hw m).length := ⟨_, rfl⟩
    have HM := Lib.hid hM
    have hM4 : M ≤ 4 := by rw [hM]; exact HML.out
    clear hm hM HCASE
    go_wp2_with fail
    go_loopw [4] (fun nv wr => ∃ (k : Nat) (xa : Option Addr) (xc : Nat), k ≤ M ∧ nv = .int .u64 ((m / 65536 ^ k : Nat) : Int) ∧ Hid (wr.heap[w.heap.size]? = some (.cells #[.bool false, .string ⟨#[]⟩] 38)) ∧ Hid (wr.heap[w.heap.size + 1]? = some (.cells #[.bool sg, .slice xa k xc] 86)) ∧ Hid (wr.owns (w.heap.size + 1 + 1) 23 1 (.slice xa k xc) k (((List.range k).map (dig 65536 m)).map u32V)) ∧ Hid (Below w.heap.size w wr) ∧ w.heap.size + 1 + 1 ≤ wr.heap.size) (fun nv _ => (intOf nv).toNat)
    case atStart => exact ⟨0, none, 0, Nat.zero_le _, by rw [Nat.pow_zero, Nat.div_one], HG0.out, HG1.out, owns_nil _ _ _, HB0.out, by rw [HZ0.out]; exact Nat.le_refl _⟩
    case round =>
      obtain ⟨k, xa, xc, hk, rfl, hG0, hG1, hO, hB, hz⟩ := hrel
      obtain ⟨c10, c11, f10, f11⟩ := num_cells hG1.out
      by_cases hlt : k < M
      · have hst := div_pow_succ 65536 m k
        have hdl := hw_dig m k
        have hge : 65536 ^ k ≤ m := hw_len_ge (by rw [← HM.out]; exact hlt)
        have hpos : 0 < m / 65536 ^ k := Nat.div_pos hge (Nat.pow_pos (by omega))
        have hle := Nat.div_le_self m (65536 ^ k)
        obtain ⟨r, er⟩ : ∃ r, r = m / 65536 ^ k := ⟨_, rfl⟩
        obtain ⟨z, ez⟩ : ∃ r, r = dig 65536 m k := ⟨_, rfl⟩
        obtain ⟨q, eq⟩ : ∃ r, r = m / 65536 ^ (k + 1) := ⟨_, rfl⟩
        rw [← er, ← ez, ← eq] at hst
        rw [← er] at hpos hle
        rw [← ez] at hdl
        rw [← er]
        have EZ := Lib.hid ez
        have EQ := Lib.hid eq
        have t0 : (0 : Int) < (r : Int) := by omega
        have t1 : (r : Int) % 65536 = (z : Int) := by omega
        have t2 : (z : Int) % 4294967296 = (z : Int) := by omega
        have t3 : (r : Int) / 65536 = (q : Int) := by omega
        have HRQ : Hid (q < r) := by show q < r; omega
        have hr64 : r < 18446744073709551616 := by omega
        clear er ez eq hst hge hpos
        go_wp2_with (at_builtin; refine app_u32 wr 22 Try.underlying22 rfl (.tmp 19) (.tmp 23) rfl (w.heap.size + 1 + 1) (.slice xa k xc) k _ rfl hO.out (z : Int) wr.heap.size rfl rfl (by omega) hz ?_; intro v5 w5 hown5 hg5 hz5; have HO5 := Lib.hid hown5; obtain ⟨g5, q5, rfl⟩ := hown5.succ; have hb5 := below_grown hO.out hg5 (w.heap.size + 1 + 1) (Nat.le_refl _) hz; have HB5 := Lib.hid hb5; have K0 := Lib.hid ((hb5.block _ (by omega)).trans hG0.out); have hk1 := (hb5.block _ (by omega)).trans hG1.out; have K1 := Lib.hid hk1; obtain ⟨e10, e11, i10, i11⟩ := num_cells hk1; clear hown5 hg5 hb5 hk1)
        go_roundw
        case rel =>
          refine ⟨k + 1, some ⟨g5, 0, none⟩, q5, by omega, by first | (rw [← EQ.out]; done) | (rw [t3, ← EQ.out]), ?_, ?_, ?_, ?_, ?_⟩
          · show _ = _; rw [cell_other (by omega)]; exact K0.out
          · show _ = _; exact num_set1 K1.out _
          · show World.owns _ _ _ _ _ _ _
            refine World.owns.setCell ?_ (by simp) _
            rw [List.range_succ, List.map_append, List.map_append]
            show w5.owns _ _ _ _ _ (_ ++ [u32V (dig 65536 m k)])
            rw [← EZ.out]
            exact HO5.out
          · show Below _ _ _
            exact (hB.out.trans (HB5.out.mono (by omega))).setCell (by simp) _
          · simp; omega
        case measure =>
          have := HRQ.out
          first | (simp [intOf, t3]; done) | (simp [intOf, t3]; omega) | (simp [intOf]; omega)
      · obtain rfl : k = M := by omega
        have h0 : m / 65536 ^ k = 0 := Nat.div_eq_of_lt (by rw [HM.out]; exact hw_vlt m)
        rw [h0]
        have hnum : World.numH wr (.slice xa k xc) m := rawH_num hO.out.reads HM.out
        have t0 : ¬ (0 : Int) < ((0 : Nat) : Int) := by omega
        have HNUM := Lib.hid hnum
        clear h0 hnum
        go_wp2_with fail
        (with_reducible refine (HOUT.out _ _ HNUM.out).mono ?_)
        rintro e w6 ⟨rfl, hb6⟩
        have hg6 := wide_hold (w := wr) hG0.out hb6
        have HB6 := Lib.hid (hB.out.trans (hb6.mono hB.out.size))
        have hz6 := hb6.size
        have ha6 : (w6.alloc (.cells #[.bool fb, .string ft] 38)).heap[w.heap.size]? = some (.cells #[.bool false, .string ⟨#[]⟩] 38) := by rw [Below.heap_alloc _ _ _ (by omega)]; exact hg6
        have ha7 : (w6.alloc (.cells #[.bool fb, .string ft] 38)).heap[w6.heap.size]? = some (.cells #[.bool fb, .string ft] 38) := heap_alloc_new w6 _
        have hb7 : Below w.heap.size w (w6.alloc (.cells #[.bool fb, .string ft] 38)) := HB6.out.alloc HB6.out.size _
        clear c10 c11 f10 f11 hb6
        obtain ⟨d0, d1, fd⟩ := wide_cells ha6
        obtain ⟨i0, i1, -⟩ := wide_cells ha7
        have HA6 := Lib.hid ha6
        have HB7 := Lib.hid hb7
        clear ha6 ha7 hb7 hg6
        go_wp2
        have m2 := wide_set HA6.out fb ft
        have hb9 : Below w.heap.size w (((w6.alloc (.cells #[.bool fb, .string ft] 38)).setCell ⟨w.heap.size, 0, none⟩ (.bool fb)).setCell ⟨w.heap.size, 1, none⟩ (.string ft)) := (HB7.out.setCell (by simp) _).setCell (by simp) _
        clear d0 d1 fd i0 i1
        obtain ⟨d20, d21, -⟩ := wide_cells m2
        clear m2
        generalize ((w6.alloc (.cells #[.bool fb, .string ft] 38)).setCell ⟨w.heap.size, 0, none⟩ (.bool fb)).setCell ⟨w.heap.size, 1, none⟩ (.string ft) = W9 at d20 d21 hb9 ⊢
        rw [HP.out]
        exact bodyPost_ret (v := .agg #[.bool fb, .string ft]) (by simp [results, Try.results24, go_sem, d20, d21]) rfl ⟨rfl, hb9⟩
end Go.Proofs.Ytnjblppapmflhaa
