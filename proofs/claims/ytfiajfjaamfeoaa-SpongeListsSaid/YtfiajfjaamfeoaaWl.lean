/- Walks: the law of digests. -/
import Derived.Test.YtfiajfjaamfeoaaWk
import Derived.Deep.DeepCutAuto
namespace Go.Proofs.Ytfiajfjaamfeoaa
open Go.RowKit
theorem add_plain (b off j : Nat) : (⟨b, off, none⟩ : Addr).add j = ⟨b, off + j, none⟩ := by unfold Addr.add; split <;> simp_all
theorem Try.info9 : (Try.prog.info? 9).map (fun i => (i.zero, i.size, i.bytes)) = some (some (.string ByteArray.empty), 1, 16) := by kernel_rfl
theorem refList_owns (d : UInt8) (l : List ByteArray) (hlong : longB l 20000 = false) (v : Value) (w : World) (hr : w.reads w.heap.size v (l.map Value.string)) :
    Calls Try.prog 19 #[.int .u8 (d.toNat : Int), v] w fun e w' => e = .returned (.string (runB (bytesOf (listTo d l.length l)) 0 32)) ∧ Below w.heap.size w w' := refList_any d l hlong v w hr
set_option maxRecDepth 100000 in
set_option maxHeartbeats 4000000 in
/-- The law's walk, the list short. -/
theorem digests_short (d : UInt8) (l : List ByteArray) (hlong : longB l 20000 = false) (n : Int) (hn : ¬ (20000 < n ∧ n ≤ 1048576)) (s : ByteArray) (hsl : l[0]? = some s ∨ (l.length = 0 ∧ s = ByteArray.empty)) (v : Value) (w : World) (hr : w.reads w.heap.size v (l.map Value.string)) :
    Calls Try.prog 5 #[byteV d, v, .int .i64 n] w fun e w' => e = .returned (.bool true) ∧ Below w.heap.size w w' := by
  obtain ⟨i0, hi0, hz0, hz1, hz2⟩ := info_parts Try.info9
  have hbk := longB_bulk l 20000 hlong
  have hln := bulk_len l
  have hss : s.size ≤ 20000 := by
    rcases hsl with h | ⟨_, rfl⟩
    · have := bulk_get l 0 s h; omega
    · decide
  have HL := fun w (h : w.reads w.heap.size v (l.map Value.string)) => Long_any l 20000 (by omega) (by omega) v w h
  rw [hlong] at HL
  obtain ⟨r, hr0⟩ : ∃ r : ByteArray × Int, r = (if 0 ≤ n ∧ n ≤ 1048576 then (runB s 1 n.toNat, 0) else (ByteArray.empty, 2)) := ⟨_, rfl⟩
  have hp : ∀ w, Calls Try.prog 11 #[.string s, .int .i64 n] w fun e w' => e = .returned (.tuple #[.string r.1, .int .i64 r.2]) ∧ Below w.heap.size w w' := by
    intro w
    by_cases h : 0 ≤ n ∧ n ≤ 1048576
    · rw [hr0, if_pos h]; exact Stream_ok s (by omega) n h w
    · rw [hr0, if_neg h]; exact Stream_bad s n (by omega) w
  have hq : ∀ w, Calls Try.prog 15 #[.string s, .int .i64 n] w fun e w' => e = .returned (.tuple #[.string r.1, .int .i64 r.2]) ∧ Below w.heap.size w w' := by
    intro w
    by_cases h : 0 ≤ n ∧ n ≤ 1048576
    · rw [hr0, if_pos h]; exact refStream_ok s (by omega) n h w
    · rw [hr0, if_neg h]; exact refStream_bad s n (by omega) w
  have HP := Lib.hid hp
  have HQ := Lib.hid hq
  clear hp hq hr0
  obtain ⟨y, m⟩ := r
  have HR := Lib.hid hr
  obtain ⟨a, cap, rfl, hnone, hcells⟩ := hr
  simp only [List.length_map] at HL ⊢
  have HC := Lib.hid hcells
  have HN := Lib.hid hnone
  have HLO := Lib.hid hlong
  have HSL := Lib.hid hsl
  clear hcells hlong hsl hnone
  have hr' := HR.out
  simp only [List.length_map] at hr'
  rcases (show (20000 < n ∧ ¬ n ≤ 1048576) ∨ ¬ 20000 < n by omega) with ⟨hn1, hn2⟩ | hn1
  all_goals
    go_enter Try.func5, Try.ntmps5
    go_wp2_with fail
    refine (HL _ hr').mono ?_
    rintro e w1 ⟨rfl, rfl⟩
    clear HL hr'
    go_upto_if 26 with (fail)
    go_cut [7] (fun s7 wx => s7 = .string s ∧ w = wx)
    case first =>
      rcases HSL.out with h0 | ⟨h0, rfl⟩
      · have hlt : (0 : Int) < (l.length : Int) := by have := (List.getElem?_eq_some_iff.1 h0).1; omega
        obtain ⟨b, off, rfl, hb, hc⟩ := HC.out 0 (.string s) (by simp [h0])
        rw [Nat.add_zero] at hc
        clear h0
        go_wp2
        go_meet
        case rel => exact ⟨rfl, rfl⟩
      · have hlt : ¬ (0 : Int) < (l.length : Int) := by omega
        clear h0
        go_wp2
        go_meet
        case rel => exact ⟨rfl, rfl⟩
    case rest =>
      obtain ⟨rfl, rfl⟩ := hcut
      go_upto_region 6 with (fail)
      go_cut [8] (fun s8 wx => wx.owns w.heap.size 9 1 s8 l.length (l.map Value.string) ∧ Below w.heap.size w wx)
      case first =>
        have how0 : (w.alloc (.cells #[] 9)).owns w.heap.size 9 1 (.slice (some ⟨w.heap.size, 0, none⟩) 0 0) 0 [] :=
          ⟨rfl, .inr ⟨w.heap.size, 0, #[], (0, 0), rfl, Nat.le_refl _, heap_alloc_new _ _, okFz_zero _, Nat.le_refl _, by unfold maxLen; omega, rfl, rfl⟩⟩
        have hB0 : Below w.heap.size w (w.alloc (.cells #[] 9)) := (Below.refl _ w).alloc (Nat.le_refl _) _
        rcases a with _ | x
        · obtain rfl : cap = 0 := HN.out rfl
          have hl0 : l = [] := by
            rcases l with _ | ⟨z, l⟩
            · rfl
            · obtain ⟨_, _, h, _⟩ := HC.out 0 (.string z) (by simp)
              cases h
          subst hl0
          go_wp2
          go_meet
          case rel => exact ⟨how0, hB0⟩
        · have hnw : ∀ j u, (l.map Value.string)[j]? = some u → (w.alloc (.cells #[] 9)).cell? (x.add j) = some u := by
            intro j u hj
            obtain ⟨b, off, h1, hb, hc⟩ := HC.out j u hj
            cases h1
            rw [add_plain]
            exact (World.cell?_of_block (w := w) (a := ⟨b, off + j, none⟩) (Below.heap_alloc w _ b hb)).trans hc
          have HW := Lib.hid hnw
          clear hnw
          go_wp2_with (at_builtin; refine wpList_append_owns _ rfl (.tmp 30) (.tmp 31) 36 rfl w.heap.size 9 i0 (.string ByteArray.empty) 1 16 Try.underlying36 hi0 hz0 hz1 hz2 rfl (by decide) _ 0 _ rfl how0 x l.length cap (l.map Value.string) rfl (by rw [List.length_map, Nat.mul_one]) HW.out (fun u hu => by obtain ⟨z, _, rfl⟩ := List.mem_map.1 hu; rfl) (by unfold maxLen; omega) (by omega) (by simp only [World.size_alloc]; omega) ?_; intro v4 w4 hown4 hg4 _)
          go_meet
          case rel =>
            rw [Nat.zero_add, List.nil_append] at hown4
            exact ⟨hown4, hB0.grown hg4 (by simp) (fun k e => by have := how0.lt _ e; omega)⟩
      case rest =>
        obtain ⟨hown, hB⟩ := hcut
        have hs1 := hB.size
        have hr' := HR.out
        simp only [List.length_map] at hr'
        go_wp2_with fail
        refine (HP.out _).mono ?_
        rintro e w1 ⟨rfl, hb1⟩
        have hB1 : Below w.heap.size w w1 := hB.trans (hb1.mono hs1)
        have ho1 := hown.below hb1
        clear hb1 hown hB hs1
        go_wp2_with fail
        refine (HQ.out _).mono ?_
        rintro e w2 ⟨rfl, hb2⟩
        have hB2 : Below w.heap.size w w2 := hB1.trans (hb2.mono hB1.size)
        have ho2 := ho1.below hb2
        clear hb2 ho1 hB1
        go_wp2_with fail
        refine (Digest_any s (by omega) _).mono ?_
        rintro e w3 ⟨rfl, hb3⟩
        have hB3 : Below w.heap.size w w3 := hB2.trans (hb3.mono hB2.size)
        have ho3 := ho2.below hb3
        clear hb3 ho2 hB2
        go_wp2_with fail
        refine (refDigest_any s (by omega) _).mono ?_
        rintro e w4 ⟨rfl, hb4⟩
        have hB4 : Below w.heap.size w w4 := hB3.trans (hb4.mono hB3.size)
        have ho4 := ho3.below hb4
        clear hb4 ho3 hB3
        go_wp2_with fail
        refine (Short_any s (by omega) _).mono ?_
        rintro e w5 ⟨rfl, hb5⟩
        have hB5 : Below w.heap.size w w5 := hB4.trans (hb5.mono hB4.size)
        have ho5 := ho4.below hb5
        clear hb5 ho4 hB4
        go_wp2_with fail
        refine (refShort_any s (by omega) _).mono ?_
        rintro e w6 ⟨rfl, hb6⟩
        have hB6 : Below w.heap.size w w6 := hB5.trans (hb6.mono hB5.size)
        have ho6 := ho5.below hb6
        clear hb6 ho5 hB5
        go_wp2_with fail
        refine (List_owns d l HLO.out _ _ ho6.reads).mono ?_
        rintro e w7 ⟨rfl, hb7⟩
        have hB7 : Below w.heap.size w w7 := hB6.trans (hb7.mono hB6.size)
        have ho7 := ho6.below hb7
        clear hb7 ho6 hB6
        go_wp2_with fail
        refine (refList_owns d l HLO.out _ _ ((hr'.below hB7).mono hB7.size)).mono ?_
        rintro e w8 ⟨rfl, hb8⟩
        have hB8 : Below w.heap.size w w8 := hB7.trans (hb8.mono hB7.size)
        have ho8 := ho7.below hb8
        clear hb8 ho7 hB7
        go_wp2_with fail
        refine (Same_any l l (by omega) _ _ _ ho8.reads ((hr'.below hB8).mono hB8.size)).mono ?_
        rintro e w9 ⟨rfl, q9, rfl⟩
        go_wp2_with fail
        refine (shown_any _).mono ?_
        rintro e w10 ⟨rfl, hb10⟩
        go_wp2
        go_ret
        exact ⟨rfl, (below_drewN hB8 q9).trans (hb10.mono hB8.size)⟩

theorem digests_law (d : UInt8) (l : List ByteArray) (hl : l.length ≤ 9223372036854775807) (n : Int) (v : Value) (w : World) (hr : w.reads w.heap.size v (l.map Value.string)) :
    Calls Try.prog 5 #[byteV d, v, .int .i64 n] w fun e w' => e = .returned (.bool true) ∧ Below w.heap.size w w' := by
  have HL := fun w (h : w.reads w.heap.size v (l.map Value.string)) => Long_any l 20000 (by omega) hl v w h
  by_cases hlong : longB l 20000 = true
  · rw [hlong] at HL
    go_enter Try.func5, Try.ntmps5
    go_wp2_with fail
    refine (HL _ hr).mono ?_
    rintro e w1 ⟨rfl, rfl⟩
    clear HL
    go_wp2_with fail
    refine (shown_any _).mono ?_
    rintro e w1 ⟨rfl, hb1⟩
    go_wp2
    go_ret
    exact ⟨rfl, hb1⟩
  · have hlong' : longB l 20000 = false := by simpa using hlong
    by_cases hn : 20000 < n ∧ n ≤ 1048576
    · obtain ⟨hn1, hn2⟩ := hn
      rw [hlong'] at HL
      clear hlong hlong'
      go_enter Try.func5, Try.ntmps5
      go_wp2_with fail
      refine (HL _ hr).mono ?_
      rintro e w1 ⟨rfl, rfl⟩
      clear HL
      go_wp2_with fail
      refine (shown_any _).mono ?_
      rintro e w1 ⟨rfl, hb1⟩
      go_wp2
      go_ret
      exact ⟨rfl, hb1⟩
    · rcases l with _ | ⟨x, l⟩
      · exact digests_short d [] hlong' n hn ByteArray.empty (.inr ⟨rfl, rfl⟩) v w hr
      · exact digests_short d (x :: l) hlong' n hn x (.inl rfl) v w hr
end Go.Proofs.Ytfiajfjaamfeoaa
