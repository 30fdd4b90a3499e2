/- Walks: the reference's parameters that are valid. -/
import Derived.Test.YtpcpgmgpkegjlaaBase
import Derived.Test.YtpcpgmgpkegjlaaGA9
namespace Go.Proofs.Ytpcpgmgpkegjlaa
open Go.RowKit Go.Shelf Go.BigFrame
/-- The chain and the special modulus. -/
def allL (chain : List Nat) (sp : Nat) : List Nat := if sp = 0 then chain else chain ++ [sp]
theorem okTo_app (chain : List Nat) (x k : Nat) (hk : k ≤ chain.length) : okTo (chain ++ [x]) k = okTo chain k := by
  unfold okTo
  rw [Bool.eq_iff_iff, List.all_eq_true, List.all_eq_true]
  constructor <;> intro h i hi <;> have h1 := h i hi <;> rw [List.mem_range] at hi
  · rw [List.getElem?_append_left (by omega), List.take_append_of_le_length (by omega)] at h1; exact h1
  · rw [List.getElem?_append_left (by omega), List.take_append_of_le_length (by omega)]; exact h1
theorem okTo_all (chain : List Nat) (sp : Nat) : okTo (allL chain sp) (allL chain sp).length = (okTo chain chain.length && spB chain sp) := by
  unfold allL spB
  by_cases h : sp = 0
  · rw [if_pos h]; simp [h]
  · rw [if_neg h, List.length_append, List.length_singleton, okTo_succ _ _ sp (by simp), okTo_app _ _ _ (Nat.le_refl _)]
    have : (sp == 0) = false := by simpa using h
    rw [this, List.take_left]
    simp
theorem validB_all (N : Int) (chain : List Nat) (sp : Nat) : validB N chain sp = (sizeB N && (decide (1 ≤ chain.length) && decide (chain.length ≤ 24)) && okTo (allL chain sp) (allL chain sp).length) := by
  rw [okTo_all]
  unfold validB
  cases sizeB N <;> cases decide (1 ≤ chain.length) <;> cases decide (chain.length ≤ 24) <;> cases spB chain sp <;> cases okTo chain chain.length <;> rfl
theorem allL_lt {chain : List Nat} {sp : Nat} (h : ∀ q ∈ chain, q < 4294967296) (hsp : sp < 4294967296) : ∀ q ∈ allL chain sp, q < 4294967296 := by
  unfold allL
  split
  · exact h
  · intro q hq
    rw [List.mem_append, List.mem_singleton] at hq
    rcases hq with hq | rfl
    · exact h q hq
    · exact hsp
theorem hasB_succ (l : List Nat) (k y q : Nat) (h : l[k]? = some y) : hasB (l.take (k + 1)) q = (hasB (l.take k) q || decide (y = q)) := by
  unfold hasB
  rw [List.take_add_one, h]
  rw [Bool.eq_iff_iff]
  simp
  constructor
  · rintro (h | h)
    · exact .inl h
    · exact .inr h.symm
  · rintro (h | h)
    · exact .inl h
    · exact .inr h.symm
theorem hasB_take {l : List Nat} {k i y : Nat} (h : l[k]? = some y) (hk : k < i) : hasB (l.take i) y = true := by
  unfold hasB
  rw [List.contains_iff_mem]
  exact List.mem_of_getElem? (i := k) (by rw [List.getElem?_take, if_pos hk]; exact h)
theorem okTo_no {l : List Nat} {i q m : Nat} (h : l[i]? = some q) (hb : (modB q && !hasB (l.take i) q) = false) (hi : i < m) : okTo l m = false :=
  okTo_mono _ (i + 1) _ (by rw [okTo_succ _ _ _ h, hb]; simp) hi
theorem one_u32 (l : List Nat) : ∀ u ∈ l.map u32V, u.oneCell' = true := by
  intro u hu
  rw [List.mem_map] at hu
  obtain ⟨x, _, rfl⟩ := hu
  rfl
theorem info32 : (Try.prog.info? 22).map (fun i => (i.zero, i.size, i.bytes)) = some (some (.int .u32 0), 1, 4) := by kernel_rfl
/-- What the loops answer. -/
def OkPost (b : Bool) (w : World) (e : Ending) (w' : World) : Prop := e = .returned (.bool b) ∧ Below w.heap.size w w'
theorem size_test (N : Int) (h : sizeB N = false) : (N != 4) = true ∧ (N != 8) = true ∧ (N != 16) = true ∧ (N != 32) = true := by
  unfold sizeB at h
  simp only [Bool.or_eq_false_iff, beq_eq_false_iff_ne, ne_eq] at h
  simp only [bne_iff_ne, ne_eq]
  exact ⟨h.1.1.1, h.1.1.2, h.1.2, h.2⟩
set_option maxRecDepth 100000 in
set_option maxHeartbeats 16000000 in
theorem valid09_any (N pr pw wt er : Int) (cv : Value) (chain : List Nat) (sp : Nat) (w : World) (hr : w.reads w.heap.size cv (chain.map u32V)) :
    Calls Try.prog 40 #[.agg #[.int .i64 N, .int .u32 pr, .int .i64 pw, cv, .int .u32 (sp : Int), .int .i64 wt, .int .u32 er]] w (OkPost (validB N chain sp) w) := by
  obtain ⟨r, hrr⟩ : ∃ r, r = validB N chain sp := ⟨_, rfl⟩
  rw [← hrr]
  rw [validB_all] at hrr
  have hpost : ∀ e w', e = .returned (.bool r) ∧ Below w.heap.size w w' → OkPost r w e w' := fun _ _ h => h
  have HPOST := Lib.hid hpost
  have HR := Lib.hid hrr
  clear hpost hrr
  obtain ⟨a, cap, rfl, hcap, hmx, -⟩ := reads_u32 hr
  have hl := hr.le_map
  obtain ⟨W0, hW0⟩ : ∃ W0, W0 = w.alloc (.cells #[.int .i64 N, .int .u32 pr, .int .i64 pw, .slice a chain.length cap, .int .u32 (sp : Int), .int .i64 wt, .int .u32 er] 25) := ⟨_, rfl⟩
  have hB0 : Below w.heap.size w W0 := by rw [hW0]; exact (Below.refl _ w).alloc (Nat.le_refl _) _
  have g0 : W0.heap[w.heap.size]? = some (.cells #[.int .i64 N, .int .u32 pr, .int .i64 pw, .slice a chain.length cap, .int .u32 (sp : Int), .int .i64 wt, .int .u32 er] 25) := by rw [hW0]; exact alloc_last _ _ rfl
  have hz0 := lt_of_heap g0
  have hr0 := hr.below hB0
  obtain ⟨m, hm⟩ : ∃ m, m = chain.length := ⟨_, rfl⟩
  rw [← hm] at hl hcap g0 hr0 hW0 HR ⊢
  obtain ⟨c0, c1, c2, c3, c4, c5, c6⟩ := par_cells g0
  have HG0 := Lib.hid g0
  have HR0 := Lib.hid hr0
  have HW0 := Lib.hid hW0
  have HM := Lib.hid hm
  clear hr g0 hr0 hW0 hm
  cases hsz : sizeB N
  case false =>
    obtain rfl : r = false := by rw [HR.out, hsz]; rfl
    obtain ⟨t1, t2, t3, t4⟩ := size_test N hsz
    clear hsz
    go_enter Try.func40, Try.ntmps40
    go_upto_region 1 with (fail)
    rw [← HW0.out]
    go_wp2
    go_ret
    exact HPOST.out _ _ ⟨rfl, hB0⟩
  have hN : N = 4 ∨ N = 8 ∨ N = 16 ∨ N = 32 := by
    unfold sizeB at hsz
    simp only [Bool.or_eq_true, beq_iff_eq] at hsz
    omega
  have HSZ := Lib.hid hsz
  clear hsz
  go_enter Try.func40, Try.ntmps40
  go_upto_region 1 with (fail)
  rw [← HW0.out]
  go_cut [23] (fun s wx => s = .bool false ∧ wx = W0)
  case first =>
    rcases hN with rfl | rfl | rfl | rfl
    all_goals
      go_wp2
      go_meet
      case rel => exact ⟨rfl, rfl⟩
  case rest =>
    obtain ⟨rfl, rfl⟩ := hcut
    by_cases hm1 : 1 ≤ m
    case neg =>
      obtain rfl : r = false := by rw [HR.out]; simp; omega
      have hd1 : decide ((m : Int) < 1) = true := by simp; omega
      go_wp2
      go_ret
      exact HPOST.out _ _ ⟨rfl, hB0⟩
    by_cases hm2 : m ≤ 24
    case neg =>
      obtain rfl : r = false := by rw [HR.out]; simp; omega
      go_wp2
      go_ret
      exact HPOST.out _ _ ⟨rfl, hB0⟩
    have hr1 : r = okTo (allL chain sp) (allL chain sp).length := by rw [HR.out, HSZ.out]; simp [hm1, hm2]
    have HR1 := Lib.hid hr1
    clear hr1 hN HR HSZ
    obtain ⟨i0, hi, hiz, hiz1, hizb⟩ := info_parts info32
    have hown0 := World.owns_nil wc wc.heap.size 22 1
    have q1 : 0 + (chain.map u32V).length ≤ maxLen := by rw [List.length_map, ← HM.out]; unfold maxLen; omega
    have q2 : (0 + (chain.map u32V).length) * 4 ≤ 140737488355328 := by rw [List.length_map, ← HM.out]; omega
    have HQ1 := Lib.hid q1
    have HQ2 := Lib.hid q2
    clear q1 q2
    go_upto_region 7 with (at_builtin; refine wpList_append_reads wc rfl (.tmp 34) (.tmp 36) 23 rfl wc.heap.size 22 i0 (.int .u32 0) 4 Try.underlying23 hi hiz hiz1 hizb rfl (.slice none 0 0) 0 [] rfl hown0 w.heap.size (.slice a m cap) (chain.map u32V) rfl HR0.out (one_u32 chain) HQ1.out HQ2.out (Nat.le_refl _) ?_; intro v1 w1 hown1 hg1)
    have hb1 : Below wc.heap.size wc w1 := (Below.refl _ _).grown hg1 (Nat.le_refl _) (fun k hk => by simp [Value.ownBlock] at hk)
    have hB1 := hB0.trans (hb1.mono hB0.size)
    have hg := (hb1.block _ hz0).trans HG0.out
    have hs1 := hb1.size
    rw [List.nil_append, Nat.zero_add, List.length_map, ← HM.out] at hown1
    obtain ⟨gb, gc, rfl⟩ := hown1.pos (by omega)
    have HG1 := Lib.hid hg
    clear c0 c1 c2 c3 c4 c5 c6 hg1 hown0
    obtain ⟨c0, c1, c2, c3, c4, c5, c6⟩ := par_cells hg
    have HO1 := Lib.hid hown1
    clear hg hown1
    go_upto_if 40 with (fail)
    go_cut [3] (fun v W => W.reads W.heap.size v ((allL chain sp).map u32V) ∧ Below w.heap.size w W)
    case first =>
      by_cases hsp : sp = 0
      · have t1 : ((sp : Int) != 0) = false := by rw [hsp]; rfl
        go_wp2
        go_meet
        case rel =>
          refine ⟨?_, hB1⟩
          unfold allL; rw [if_pos hsp]
          exact HO1.out.reads
      · have t1 : ((sp : Int) != 0) = true := by rw [bne_iff_ne]; omega
        have hin := Lib.hid hsp
        clear hsp
        go_wp2_with (at_builtin; refine wpList_append1 w1 rfl (.tmp 41) (.tmp 44) 23 rfl wc.heap.size 22 i0 (.int .u32 0) 4 Try.underlying23 hi hiz hiz1 hizb rfl (.slice (some ⟨gb, 0, none⟩) m gc) m (chain.map u32V) rfl HO1.out (.int .u32 (sp : Int)) w1.heap.size rfl rfl rfl (by unfold maxLen; omega) (by omega) hs1 ?_; intro v2 w2 hown2 hg2 hg3 hz2)
        obtain ⟨gb2, gc2, rfl⟩ := hown2.pos (by omega)
        have HO2 := Lib.hid hown2
        have HG2 := Lib.hid hg3
        clear hown2 hg2 hg3
        go_wp2
        go_meet
        case rel =>
          refine ⟨?_, hB1.grown HG2.out hB1.size (fun k hk => by have := (HO1.out.lt k hk).1; have := hB0.size; omega)⟩
          have h2 := HO2.out.reads
          have he : chain.map u32V ++ [Value.int .u32 (sp : Int)] = (allL chain sp).map u32V := by unfold allL; rw [if_neg hin.out]; simp [u32V]
          rw [he] at h2
          exact h2
    case rest =>
      clear HO1 HG1 hs1 hb1 hB1 HW0 HR0 HG0 hmx hcap HQ1 HQ2 c0 c1 c2 c3 c4 c5 c6 hz0 hB0 HM hl
      obtain ⟨hrv, hBw⟩ := hcut
      obtain ⟨w2, hw2⟩ : ∃ w2, w2 = wc := ⟨_, rfl⟩
      subst hw2
      have hl2 := hrv.le_map
      obtain ⟨xa, xc, rfl, hxc, hxm, hxs⟩ := reads_u32 hrv
      obtain ⟨L, hL⟩ : ∃ L, L = allL chain sp := ⟨_, rfl⟩
      rw [← hL] at hrv hl2 hxc hxs HR1 ⊢
      obtain ⟨M, hM⟩ : ∃ M, M = L.length := ⟨_, rfl⟩
      rw [← hM] at hl2 hxc HR1 ⊢
      have HXS := Lib.hid hxs
      have HM2 := Lib.hid hM
      clear hrv hxs hM hL
      go_wp2_with fail
      go_loopw [4] (fun i wx => ∃ k n : Nat, k ≤ M ∧ i = .int .i64 (k : Int) ∧ wx = w2.drewN n ∧ Hid (okTo L k = true)) (fun i _ => M - (intOf i).toNat)
      case atStart => exact ⟨0, 0, Nat.zero_le _, rfl, rfl, rfl⟩
      case round =>
        obtain ⟨i, n0, hi', rfl, rfl, hok⟩ := hrel
        by_cases hlt : i < M
        · obtain ⟨q, hq⟩ : ∃ x, L[i]? = some x := ⟨L[i]'(by rw [← HM2.out]; exact hlt), List.getElem?_eq_getElem _⟩
          obtain ⟨b, off, rfl, _, hc⟩ := HXS.out i q hq
          have HQ := Lib.hid hq
          clear hq
          have i1 : (0 : Int) ≤ (i : Int) := by omega
          have i2 : (i : Int) < (M : Int) := by omega
          by_cases hmq : modB q = true
          case neg =>
            obtain rfl : r = false := by rw [HR1.out]; exact okTo_no HQ.out (by simp [hmq]) hlt
            have hmq2 : q < 3 ∨ 2147483647 < q ∨ q % 2 = 0 := by
              unfold modB at hmq
              simp only [Bool.and_eq_true, decide_eq_true_eq] at hmq
              omega
            clear hmq
            by_cases h3 : q < 3
            · clear hmq2
              go_wp2
              go_ret
              exact HPOST.out _ _ ⟨rfl, below_drewN hBw n0⟩
            · by_cases h4 : 2147483647 < q
              · clear hmq2
                go_wp2
                go_ret
                exact HPOST.out _ _ ⟨rfl, below_drewN hBw n0⟩
              · have h5 : ((q : Int) % 2 == 0) = true := by rw [beq_iff_eq]; omega
                clear hmq2
                go_wp2
                go_ret
                exact HPOST.out _ _ ⟨rfl, below_drewN hBw n0⟩
          case pos =>
            have hmq2 : 3 ≤ q ∧ q ≤ 2147483647 ∧ q % 2 = 1 := by
              have := hmq
              unfold modB at this
              simp only [Bool.and_eq_true, decide_eq_true_eq] at this
              omega
            obtain ⟨m1, m2, m3⟩ := hmq2
            have h5 : ((q : Int) % 2 == 0) = false := by rw [beq_eq_false_iff_ne]; omega
            have HMQ := Lib.hid hmq
            clear m3 hmq
            go_wp2_with fail
            go_loopw [5] (fun kk wx => ∃ k n : Nat, k ≤ i ∧ kk = .int .i64 (k : Int) ∧ wx = w2.drewN n ∧ Hid (hasB (L.take k) q = false)) (fun kk _ => i - (intOf kk).toNat)
            case atStart => exact ⟨0, _, Nat.zero_le _, rfl, rfl, rfl⟩
            case round =>
              obtain ⟨k, n1, hk, rfl, rfl, hno⟩ := hrel
              by_cases hltk : k < i
              · obtain ⟨y, hy⟩ : ∃ x, L[k]? = some x := ⟨L[k]'(by rw [← HM2.out]; omega), List.getElem?_eq_getElem _⟩
                obtain ⟨b2, off2, hb2, _, hc2⟩ := HXS.out k y hy
                injection hb2 with hb2
                injection hb2 with hb2a hb2b
                subst hb2a hb2b
                have HY := Lib.hid hy
                clear hy
                have j1 : (0 : Int) ≤ (k : Int) := by omega
                have j2 : (k : Int) < (M : Int) := by omega
                by_cases hyq : y = q
                · subst hyq
                  obtain rfl : r = false := by rw [HR1.out]; exact okTo_no HQ.out (by rw [hasB_take HY.out hltk]; simp) hlt
                  have t5 : ((y : Int) == (y : Int)) = true := by simp
                  go_upto_region 17 with (fail)
                  go_quiet (fail)
                  go_wp2
                  go_ret
                  exact HPOST.out _ _ ⟨rfl, below_drewN hBw _⟩
                · have t5 : ((y : Int) == (q : Int)) = false := by rw [beq_eq_false_iff_ne]; omega
                  have HYQ := Lib.hid hyq
                  clear hyq
                  go_upto_region 17 with (fail)
                  go_quiet (fail)
                  go_wp2
                  go_roundw
                  case rel => exact ⟨k + 1, _, by omega, by go_num, rfl, by show _ = _; rw [hasB_succ _ _ _ _ HY.out, hno.out]; simp [HYQ.out]⟩
                  case measure => simp [intOf]; omega
              · obtain rfl : k = i := by omega
                have hok2 : Hid (okTo L (k + 1) = true) := by
                  show _ = _
                  rw [okTo_succ _ _ _ HQ.out, hok.out, HMQ.out, hno.out]; rfl
                clear hno hok
                go_wp2
                go_roundw
                case rel => exact ⟨k + 1, _, by omega, by go_num, rfl, hok2⟩
                case measure => simp [intOf]; omega
        · obtain rfl : i = M := by omega
          obtain rfl : r = true := by rw [HR1.out, hok.out]
          clear hok
          go_wp2
          go_ret
          exact HPOST.out _ _ ⟨rfl, below_drewN hBw n0⟩
end Go.Proofs.Ytpcpgmgpkegjlaa
