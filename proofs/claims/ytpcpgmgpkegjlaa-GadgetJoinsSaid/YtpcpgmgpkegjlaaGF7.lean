/- Walks: the reference's places, moduli, and its check of an element. -/
import Derived.Test.YtpcpgmgpkegjlaaGF1
import Derived.Test.YtpcpgmgpkegjlaaBase
namespace Go.Proofs.Ytpcpgmgpkegjlaa
open Go.RowKit Go.Shelf Go.BigFrame
set_option maxRecDepth 100000 in
set_option maxHeartbeats 4000000 in
theorem rplace_any (N pr pw wt er : Int) (cv : Value) (chain : List Nat) (sp : Nat) (level : Int) (special : Bool) (w : World) (hr : w.reads w.heap.size cv (chain.map u32V)) :
    Calls Try.prog 41 #[.agg #[.int .i64 N, .int .u32 pr, .int .i64 pw, cv, .int .u32 (sp : Int), .int .i64 wt, .int .u32 er], .int .i64 level, .bool special] w (OkPost (placeB chain sp level special) w) := by
  obtain ⟨r, hrr⟩ : ∃ r, r = placeB chain sp level special := ⟨_, rfl⟩
  rw [← hrr]
  have hpost : ∀ e w', e = .returned (.bool r) ∧ Below w.heap.size w w' → OkPost r w e w' := fun _ _ h => h
  have HPOST := Lib.hid hpost
  unfold placeB levB at hrr
  obtain ⟨a, cap, rfl, hcap, hmx, -⟩ := reads_u32 hr
  have hl := hr.le_map
  obtain ⟨W0, hW0⟩ : ∃ W0, W0 = w.alloc (.cells #[.int .i64 N, .int .u32 pr, .int .i64 pw, .slice a chain.length cap, .int .u32 (sp : Int), .int .i64 wt, .int .u32 er] 25) := ⟨_, rfl⟩
  have hB0 : Below w.heap.size w W0 := by rw [hW0]; exact (Below.refl _ w).alloc (Nat.le_refl _) _
  have g0 : W0.heap[w.heap.size]? = some (.cells #[.int .i64 N, .int .u32 pr, .int .i64 pw, .slice a chain.length cap, .int .u32 (sp : Int), .int .i64 wt, .int .u32 er] 25) := by rw [hW0]; exact alloc_last _ _ rfl
  obtain ⟨m, hm⟩ : ∃ m, m = chain.length := ⟨_, rfl⟩
  rw [← hm] at hl hcap g0 hW0 hrr ⊢
  obtain ⟨c0, c1, c2, c3, c4, c5, c6⟩ := par_cells g0
  have HR := Lib.hid hrr
  have HW0 := Lib.hid hW0
  clear hr g0 hW0 hm hrr hpost
  by_cases k1 : 1 ≤ level
  case neg =>
    obtain rfl : r = false := by rw [HR.out]; simp [k1]
    have k2 : level < 1 := by omega
    clear k1
    go_enter Try.func41, Try.ntmps41
    go_upto_region 1 with (fail)
    rw [← HW0.out]
    go_wp2
    go_ret
    exact HPOST.out _ _ ⟨rfl, hB0⟩
  by_cases k2 : level ≤ (m : Int)
  case neg =>
    obtain rfl : r = false := by rw [HR.out]; simp [k2]
    have k3 : (m : Int) < level := by omega
    clear k2
    go_enter Try.func41, Try.ntmps41
    go_upto_region 1 with (fail)
    rw [← HW0.out]
    go_wp2
    go_ret
    exact HPOST.out _ _ ⟨rfl, hB0⟩
  have HR2 : Hid (r = (!special || sp != 0)) := by show _ = _; rw [HR.out]; simp [k1, k2]
  clear HR
  cases special
  · obtain rfl : r = true := HR2.out
    go_enter Try.func41, Try.ntmps41
    go_upto_region 1 with (fail)
    rw [← HW0.out]
    go_wp2
    go_ret
    exact HPOST.out _ _ ⟨rfl, hB0⟩
  · by_cases hsp : sp = 0
    · have t1 : ((sp : Int) != 0) = false := by rw [hsp]; rfl
      obtain rfl : r = false := by rw [HR2.out, hsp]; rfl
      clear hsp
      go_enter Try.func41, Try.ntmps41
      go_upto_region 1 with (fail)
      rw [← HW0.out]
      go_wp2
      go_ret
      exact HPOST.out _ _ ⟨rfl, hB0⟩
    · have t1 : ((sp : Int) != 0) = true := by rw [bne_iff_ne]; omega
      obtain rfl : r = true := by rw [HR2.out]; simp [hsp]
      clear hsp
      go_enter Try.func41, Try.ntmps41
      go_upto_region 1 with (fail)
      rw [← HW0.out]
      go_wp2
      go_ret
      exact HPOST.out _ _ ⟨rfl, hB0⟩
/-- What the list of moduli is. -/
def ModPost (l : List Nat) (w : World) (e : Ending) (w' : World) : Prop := (∃ v, e = .returned v ∧ w'.reads w'.heap.size v (l.map u32V)) ∧ Below w.heap.size w w'
set_option maxRecDepth 100000 in
set_option maxHeartbeats 4000000 in
theorem rmoduli_any (N pr pw wt er : Int) (cv : Value) (chain : List Nat) (sp lv : Nat) (special : Bool) (w : World) (hr : w.reads w.heap.size cv (chain.map u32V)) (hlv1 : 1 ≤ lv) (hlv2 : lv ≤ chain.length) (h24 : chain.length ≤ 24) :
    Calls Try.prog 42 #[.agg #[.int .i64 N, .int .u32 pr, .int .i64 pw, cv, .int .u32 (sp : Int), .int .i64 wt, .int .u32 er], .int .i64 (lv : Int), .bool special] w (ModPost (modl chain sp lv special) w) := by
  obtain ⟨ml, hmlE⟩ : ∃ ml, ml = modl chain sp lv special := ⟨_, rfl⟩
  rw [← hmlE]
  have hpost : ∀ e w', ((∃ v, e = .returned v ∧ w'.reads w'.heap.size v (ml.map u32V)) ∧ Below w.heap.size w w') → ModPost ml w e w' := fun _ _ h => h
  have HPOST := Lib.hid hpost
  obtain ⟨a, cap, rfl, hcap, hmx, -⟩ := reads_u32 hr
  obtain ⟨W0, hW0⟩ : ∃ W0, W0 = w.alloc (.cells #[.int .i64 N, .int .u32 pr, .int .i64 pw, .slice a chain.length cap, .int .u32 (sp : Int), .int .i64 wt, .int .u32 er] 25) := ⟨_, rfl⟩
  have hB0 : Below w.heap.size w W0 := by rw [hW0]; exact (Below.refl _ w).alloc (Nat.le_refl _) _
  have g0 : W0.heap[w.heap.size]? = some (.cells #[.int .i64 N, .int .u32 pr, .int .i64 pw, .slice a chain.length cap, .int .u32 (sp : Int), .int .i64 wt, .int .u32 er] 25) := by rw [hW0]; exact alloc_last _ _ rfl
  have hz0 := lt_of_heap g0
  have hr0 := ((hr.take lv hlv2).below hB0)
  rw [← List.map_take] at hr0
  obtain ⟨L, hL⟩ : ∃ L, L = chain.take lv := ⟨_, rfl⟩
  have hLl : L.length = lv := by rw [hL, List.length_take]; omega
  have hml : ml = L ++ (if special then [sp] else []) := by rw [hmlE, hL]; rfl
  have HML := Lib.hid hml
  rw [← hL] at hr0
  obtain ⟨m, hm⟩ : ∃ m, m = chain.length := ⟨_, rfl⟩
  rw [← hm] at hcap g0 hW0 hlv2 h24 ⊢
  obtain ⟨c0, c1, c2, c3, c4, c5, c6⟩ := par_cells g0
  have HG0 := Lib.hid g0
  have HW0 := Lib.hid hW0
  have HR0 := Lib.hid hr0
  have HL := Lib.hid hLl
  clear hr g0 hW0 hr0 hm hL hLl hml hmlE hpost
  obtain ⟨i0, hi, hiz, hiz1, hizb⟩ := info_parts info32
  have hown0 := World.owns_nil W0 W0.heap.size 22 1
  have q1 : 0 + (L.map u32V).length ≤ maxLen := by rw [List.length_map, HL.out]; unfold maxLen; omega
  have q2 : (0 + (L.map u32V).length) * 4 ≤ 140737488355328 := by rw [List.length_map, HL.out]; omega
  have HQ1 := Lib.hid q1
  have HQ2 := Lib.hid q2
  have z1 : (0 : Int) ≤ (lv : Int) := by omega
  have z2 : (lv : Int) ≤ (cap : Int) := by omega
  have z4 : (lv : Int).toNat = lv := by omega
  clear q1 q2
  go_enter Try.func42, Try.ntmps42
  go_upto_region 1 with (fail)
  rw [← HW0.out]
  go_upto_region 3 with (at_builtin; refine wpList_append_reads W0 rfl (.tmp 8) (.tmp 12) 23 rfl W0.heap.size 22 i0 (.int .u32 0) 4 Try.underlying23 hi hiz hiz1 hizb rfl (.slice none 0 0) 0 [] rfl hown0 w.heap.size (.slice a lv cap) (L.map u32V) rfl HR0.out (one_u32 L) HQ1.out HQ2.out (Nat.le_refl _) ?_; intro v1 w1 hown1 hg1)
  have hb1 : Below W0.heap.size W0 w1 := (Below.refl _ _).grown hg1 (Nat.le_refl _) (fun k hk => by simp [Value.ownBlock] at hk)
  have hB1 := hB0.trans (hb1.mono hB0.size)
  have hg := (hb1.block _ hz0).trans HG0.out
  have hs1 := hb1.size
  rw [List.nil_append, Nat.zero_add, List.length_map, HL.out] at hown1
  obtain ⟨gb, gc, rfl⟩ := hown1.pos (by omega)
  clear c0 c1 c2 c3 c4 c5 c6 hg1 hown0
  obtain ⟨c0, c1, c2, c3, c4, c5, c6⟩ := par_cells hg
  have HO1 := Lib.hid hown1
  clear hg hown1
  cases special
  · go_wp2
    go_ret
    refine HPOST.out _ _ ⟨⟨_, rfl, ?_⟩, hB1⟩
    rw [HML.out]
    have := HO1.out.reads
    simpa using this
  · go_wp2_with (at_builtin; refine wpList_push1 rfl (.tmp 15) (.tmp 18) 23 rfl W0.heap.size 22 i0 (.int .u32 0) 4 Try.underlying23 hi hiz hiz1 hizb rfl (.slice (some ⟨gb, 0, none⟩) lv gc) lv (L.map u32V) rfl HO1.out (.int .u32 (sp : Int)) w1.heap.size rfl rfl rfl (by unfold maxLen; omega) (by omega) hs1 ?_; intro v2 w2 hown2 hz2 hBB; obtain ⟨gb2, gc2, rfl⟩ := hown2.pos (by omega))
    have HO2 := Lib.hid hown2
    have HBB := Lib.hid hBB
    clear hown2 hBB
    go_wp2
    go_ret
    refine HPOST.out _ _ ⟨⟨_, rfl, ?_⟩, HBB.out _ _ hB1 hB0.size⟩
    rw [HML.out]
    have := HO2.out.reads
    simpa [u32V] using this
end Go.Proofs.Ytpcpgmgpkegjlaa
