/- Walks: whether an element is one. -/
import Derived.Test.YtpcpgmgpkegjlaaGA5
namespace Go.Proofs.Ytpcpgmgpkegjlaa
open Go.RowKit Go.Shelf Go.BigFrame
attribute [local go_sem] Oper.semAt_some
/-- A row of an element. -/
def okRow (N : Int) (l : List Nat) (rows : List (List Nat)) (x : Fin l.length) : Bool := (rows[x.val]?).any fun r => decide ((r.length : Int) = N) && !anyGe l[x.val] r
def preB (N : Int) (chain : List Nat) (sp : Nat) (level : Int) (special : Bool) : Bool := validB N chain sp && placeB chain sp level special
def checkB (N : Int) (chain : List Nat) (sp : Nat) (level : Int) (special : Bool) (rows : List (List Nat)) : Bool :=
  preB N chain sp level special && (decide (rows.length = (modl chain sp level.toNat special).length) && (List.finRange (modl chain sp level.toNat special).length).all (okRow N (modl chain sp level.toNat special) rows))
def errI (ok : Bool) : Int := if ok then 0 else 2
theorem modl_length (chain : List Nat) (sp : Nat) (level : Nat) (special : Bool) (h : level ≤ chain.length) : (modl chain sp level special).length = level + (if special then 1 else 0) := by
  unfold modl; cases special <;> simp <;> omega
theorem levB_nat {chain : List Nat} {sp : Nat} {level : Int} {special : Bool} (h : placeB chain sp level special = true) : ∃ k : Nat, level = (k : Int) ∧ 1 ≤ k ∧ k ≤ chain.length := by
  unfold placeB levB at h
  simp only [Bool.and_eq_true, decide_eq_true_eq] at h
  exact ⟨level.toNat, by omega, by omega, by omega⟩
theorem validB_len {N : Int} {chain : List Nat} {sp : Nat} (h : validB N chain sp = true) : 1 ≤ chain.length ∧ chain.length ≤ 24 := by
  unfold validB at h
  simp only [Bool.and_eq_true, decide_eq_true_eq] at h
  exact ⟨h.1.2.1.1, h.1.2.1.2⟩
theorem wide_all (i : Nat) : Fence.wide.fn i := trivial
set_option maxRecDepth 100000 in
set_option maxHeartbeats 8000000 in
theorem Check_any (N pr pw wt er : Int) (cv : Value) (chain : List Nat) (sp : Nat) (level : Int) (special : Bool) (rv : Value) (rows : List (List Nat)) (w : World) (hr : w.reads w.heap.size cv (chain.map u32V)) (hrow : w.rows u32V w.heap.size rv rows) :
    Calls Try.prog 31 #[.agg #[.int .i64 N, .int .u32 pr, .int .i64 pw, cv, .int .u32 (sp : Int), .int .i64 wt, .int .u32 er], .agg #[.int .i64 level, .bool special, rv]] w
      fun e w' => e = .returned (.int .i64 (errI (checkB N chain sp level special rows))) ∧ Below w.heap.size w w' := by
  obtain ⟨W0, hW0⟩ : ∃ W0, W0 = (((w.alloc (.cells #[.int .i64 N, .int .u32 pr, .int .i64 pw, cv, .int .u32 (sp : Int), .int .i64 wt, .int .u32 er] 25)).alloc (.cells #[.int .i64 level, .bool special, rv] 28)).alloc (.cells #[.int .i64 0] 34)) := ⟨_, rfl⟩
  have hB0 : Below w.heap.size w W0 := by rw [hW0]; exact (((Below.refl _ w).alloc (Nat.le_refl _) _).alloc (by simp) _).alloc (by simp; omega) _
  have hp0 : W0.heap[w.heap.size]? = some (.cells #[.int .i64 N, .int .u32 pr, .int .i64 pw, cv, .int .u32 (sp : Int), .int .i64 wt, .int .u32 er] 25) := by
    rw [hW0, Below.heap_alloc _ _ _ (by simp; omega), Below.heap_alloc _ _ _ (by simp)]; exact alloc_last _ _ rfl
  have ha0 : W0.heap[w.heap.size + 1]? = some (.cells #[.int .i64 level, .bool special, rv] 28) := by
    rw [hW0, Below.heap_alloc _ _ _ (by simp)]; exact alloc_last _ _ (by simp)
  have hc0 : W0.heap[w.heap.size + 1 + 1]? = some (.cells #[.int .i64 0] 34) := by
    rw [hW0]; exact alloc_last _ _ (by simp)
  have hr0 : W0.reads w.heap.size cv (chain.map u32V) := hr.below hB0
  have hrow0 := hrow.below hB0
  have HV := Lib.hid (fun W h1 h2 => valid_any N pr pw wt er cv chain sp w.heap.size w.heap.size W h1 h2)
  have HP := Lib.hid (fun W h1 h2 => place_any N pr pw wt er cv chain sp level special w.heap.size w.heap.size W h1 h2)
  have hz0 := lt_of_heap hc0
  obtain ⟨r, hrr⟩ : ∃ r, r = checkB N chain sp level special rows := ⟨_, rfl⟩
  rw [← hrr]
  have HR := Lib.hid hrr
  clear hrr
  refine (callsIn_wide (n := 5)).1 ?_
  refine callsIn_of_wp_marks Try.func31 rfl trivial ?_ rfl
  simp only [Try.ntmps31, List.size_toArray, List.length_cons, List.length_nil, Nat.reduceAdd, Nat.reduceSub, Array.replicate_succ, Array.replicate_zero, List.push_toArray, List.append_toArray, List.nil_append, List.cons_append]
  gi_wp2_with fail
  rw [← hW0]
  clear hW0
  have HR0 := Lib.hid hr0
  have HROW := Lib.hid hrow0
  have HP0 := Lib.hid hp0
  have HA0 := Lib.hid ha0
  clear hr hrow hr0 hrow0
  cases hv : validB N chain sp
  · obtain rfl : r = false := by rw [HR.out, checkB, preB, hv]; rfl
    rw [hv] at HV
    refine ⟨trivial, (callsIn_wide.2 (HV.out _ HR0.out hp0)).mono ?_⟩
    rintro e w1 ⟨rfl, n1, rfl⟩
    clear HV HP hv hp0 ha0
    have hcell : W0.cell? ⟨w.heap.size + 1 + 1, 0, none⟩ = some (.int .i64 0) := by simp [World.cell?, hc0]
    have hfz : W0.frozen? ⟨w.heap.size + 1 + 1, 0, none⟩ = false := by simp [World.frozen?, hc0]
    gi_wp2
    refine ⟨trivial, ?_⟩
    gi_wp2
    refine postM_ret (v := .int .i64 2) ?_ rfl ⟨rfl, ?_⟩
    · simp [results, Try.results31, go_sem, hcell]
    · exact (below_drewN hB0 n1).setCell (by simp; omega) _
  · rw [hv] at HV
    refine ⟨trivial, (callsIn_wide.2 (HV.out _ HR0.out hp0)).mono ?_⟩
    rintro e w1 ⟨rfl, n1, rfl⟩
    have hcell : W0.cell? ⟨w.heap.size + 1 + 1, 0, none⟩ = some (.int .i64 0) := by simp [World.cell?, hc0]
    have hfz : W0.frozen? ⟨w.heap.size + 1 + 1, 0, none⟩ = false := by simp [World.frozen?, hc0]
    have a0 : W0.cell? ⟨w.heap.size + 1, 0, none⟩ = some (.int .i64 level) := by simp [World.cell?, ha0]
    have a1 : W0.cell? ⟨w.heap.size + 1, 1, none⟩ = some (.bool special) := by simp [World.cell?, ha0]
    have a2 : W0.cell? ⟨w.heap.size + 1, 2, none⟩ = some rv := by simp [World.cell?, ha0]
    clear HV ha0
    gi_wp2_with fail
    cases hpl : placeB chain sp level special
    · obtain rfl : r = false := by rw [HR.out, checkB, preB, hpl]; simp
      rw [hpl] at HP
      refine ⟨trivial, (callsIn_wide.2 (HP.out _ (HR0.out.drewN _) hp0)).mono ?_⟩
      rintro e w1 ⟨rfl, rfl⟩
      clear hp0 HP hv hpl
      gi_wp2
      refine postM_ret (v := .int .i64 2) ?_ rfl ⟨rfl, ?_⟩
      · simp [results, Try.results31, go_sem, hcell]
      · exact (below_drewN hB0 n1).setCell (by simp; omega) _
    · obtain ⟨lv, rfl, hl1, hl2⟩ := levB_nat hpl
      have hlc := HR0.out.le_map
      have hl24 := (validB_len hv).2
      have hml := modl_length chain sp lv special hl2
      have hck : checkB N chain sp (lv : Int) special rows = (decide (rows.length = (modl chain sp lv special).length) && (List.finRange (modl chain sp lv special).length).all (okRow N (modl chain sp lv special) rows)) := by
        rw [checkB, preB, hv, hpl]; rfl
      rw [hck] at HR
      rw [hpl] at HP
      refine ⟨trivial, (callsIn_wide.2 (HP.out _ (HR0.out.drewN _) hp0)).mono ?_⟩
      rintro e w1 ⟨rfl, rfl⟩
      obtain ⟨ra, rcap, rfl, hrc, hrm, hsh⟩ := HROW.out.shape
      have HSH := Lib.hid hsh
      have HML := Lib.hid hml
      clear HP hv hpl hck hsh hml hp0
      obtain ⟨R, hR⟩ : ∃ R, R = lv + (if special then 1 else 0) := ⟨_, rfl⟩
      rw [← hR] at HML
      have HRR := Lib.hid hR
      have hRl : R ≤ lv + 1 := by rw [hR]; cases special <;> simp
      clear hR
      by_cases hrl : rows.length = R
      · have HRL := Lib.hid hrl
        clear hrl
        cases special
        · obtain rfl : lv = R := by rw [HRR.out]; simp
          have hq : ((rows.length : Int) != (lv : Int)) = false := by rw [bne_eq_false_iff_eq, HRL.out]; try simp
          gi_wp2_with fail
          refine ⟨trivial, (moduli_in _ _ _ _ _).mono ?_⟩
          rintro e w2 ⟨rfl, rfl⟩
          gi_wp2_with fail
          obtain ⟨W2, hW2⟩ : ∃ W2, W2 = ((W0.alloc (.cells #[.pointer (some ⟨w.heap.size, 0, none⟩)] 55)).alloc (.cells #[.int .i64 (lv : Int)] 3)).alloc (.cells #[.bool false] 4) := ⟨_, rfl⟩
          have hB2 : Below w.heap.size w W2 := by rw [hW2]; exact ((hB0.alloc hB0.size _).alloc (by have := hB0.size; simp; omega) _).alloc (by have := hB0.size; simp; omega) _
          have hB02 : Below W0.heap.size W0 W2 := by rw [hW2]; exact (((Below.refl _ W0).alloc (Nat.le_refl _) _).alloc (by simp) _).alloc (by simp; omega) _
          have k0 : W2.heap[W0.heap.size]? = some (.cells #[.pointer (some ⟨w.heap.size, 0, none⟩)] 55) := by
            rw [hW2, Below.heap_alloc _ _ _ (by simp; omega), Below.heap_alloc _ _ _ (by simp)]; exact alloc_last _ _ rfl
          have k1 : W2.heap[W0.heap.size + 1]? = some (.cells #[.int .i64 (lv : Int)] 3) := by
            rw [hW2, Below.heap_alloc _ _ _ (by simp)]; exact alloc_last _ _ (by simp)
          have k2 : W2.heap[W0.heap.size + 2]? = some (.cells #[.bool false] 4) := by
            rw [hW2]; exact alloc_last _ _ (by simp)
          have hz2 := lt_of_heap k2
          have hp2 := (hB02.block w.heap.size (by omega)).trans HP0.out
          have ha2 := (hB02.block (w.heap.size + 1) (by omega)).trans HA0.out
          have hc2 := (hB02.block (w.heap.size + 1 + 1) (by omega)).trans hc0
          have hr2 := (HR0.out.mono (B' := W0.heap.size) hB0.size).below hB02
          have hrow2 := (HROW.out.mono (B' := W0.heap.size) hB0.size).below hB02
          rw [← hW2]
          clear hW2
          have hSC := hr2.blk (by simp; omega)
          refine wpIn_range_box (n := 5) (by omega) rfl (enters_of Try.func58 (by kernel_rfl) rfl) (S := fun b => b < W2.heap.size) (w := W2.drewN n1) (fun _ h => h)
            (moduli_stops 4 (by omega) W0.heap.size w.heap.size (fun b => b < W2.heap.size) N pr pw wt er cv chain sp lv false W0.heap.size hl2 hlc (W2.drewN n1) (fun _ h => h) (by omega) (by omega) hz2 (by omega)
              (fun a n c b off h1 h2 => Nat.lt_of_lt_of_le (hSC a n c b off h1 h2) (by omega)) k0 k1 k2 hp2 (hr2.drewN n1)) (fun _ => rfl)
            (fun pre W => (∀ x ∈ pre, okRow N (modl chain sp lv false) rows x = true) ∧ Below W2.heap.size W2 W)
            (fun pre W => (∃ x ∈ pre, okRow N (modl chain sp lv false) rows x = false) ∧ W.heap[w.heap.size + 1 + 1]? = some (.cells #[.int .i64 2] 34) ∧ Below w.heap.size w W)
            ((ownFrom_pure _ _).and (ownFrom_below (Nat.le_refl _) (Nat.le_refl _)))
            ((ownFrom_pure _ _).and ((ownFrom_cells _ _ (fun _ => w.heap.size + 1 + 1) (fun _ => #[.int .i64 2]) 34 (0, 0) (fun _ _ h => h) (fun _ _ h => h)).and (ownFrom_below (Nat.le_refl _) hB2.size)))
            ⟨by simp, below_drewN (Below.refl _ _) _⟩
            (fun x c => [(34, .int .i64 (x.val : Int)), (35, .int .u32 (modAt (modl chain sp lv false) x : Int)), (6, .int .i64 (x.val : Int)), (7, .pointer (some ⟨c, 0, none⟩))])
            (fun x => .cells #[.int .u32 (modAt (modl chain sp lv false) x : Int)] 22) (fun _ => rfl) ?assign ?body ?done ?stop
          case assign =>
            intro l pre x W K hp hK
            unfold ModEnc
            gi_wp2
            exact hK W.heap.size _ _ (keepsFrom_below ((Below.refl _ _).alloc (Nat.le_refl _) _)) ((KeepP.refl _).alloc (fun b hb => Nat.lt_of_lt_of_le hb hp.2.size) _) ⟨hp.1, hp.2.alloc hp.2.size _⟩ rfl (alloc_last _ _ rfl)
          case body =>
            intro l pre x c W hl hI hc hN
            simp only [List.foldl_cons, List.foldl_nil, List.setIfInBounds_toArray, List.set_cons_succ, List.set_cons_zero]
            have hxr : x.val < rows.length := by rw [HRL.out]; have := x.isLt; have := HML.out; omega
            obtain ⟨r1, hr1⟩ : ∃ r1, rows[x.val]? = some r1 := ⟨rows[x.val], List.getElem?_eq_getElem hxr⟩
            obtain ⟨b, off, b2, c2, rfl, hb, hcl, hrd⟩ := HSH.out _ _ hr1
            obtain ⟨i, hi⟩ : ∃ i, i = x.val := ⟨_, rfl⟩
            have hok : okRow N (modl chain sp lv false) rows x = (decide ((r1.length : Int) = N) && !anyGe (modAt (modl chain sp lv false) x) r1) := by unfold okRow; rw [hr1]; rfl
            obtain ⟨q, hqq⟩ : ∃ q, q = (modAt (modl chain sp lv false) x) := ⟨_, rfl⟩
            rw [← hqq] at hok hc
            rw [← hi] at hcl hxr
            have e2 : W.cell? ⟨w.heap.size + 1, 2, none⟩ = some (.slice (some ⟨b, off, none⟩) rows.length rcap) := by
              rw [World.cell?_of_block (a := ⟨w.heap.size + 1, 2, none⟩) (hI.2.block (w.heap.size + 1) (by omega))]; simp [World.cell?, ha2]
            have eN : W.cell? ⟨w.heap.size, 0, none⟩ = some (.int .i64 N) := by
              rw [World.cell?_of_block (a := ⟨w.heap.size, 0, none⟩) (hI.2.block (w.heap.size) (by omega))]; simp [World.cell?, hp2]
            have er : W.cell? ⟨b, off + i, none⟩ = some (.slice b2 r1.length c2) := by
              rw [World.cell?_of_block (a := ⟨b, off + i, none⟩) (hI.2.block b (by omega)), World.cell?_of_block (a := ⟨b, off + i, none⟩) (hB02.block b (by have := hB0.size; omega))]; exact hcl
            have ec : W.cell? ⟨c, 0, none⟩ = some (.int .u32 (q : Int)) := by simp [World.cell?, hc]
            have hrdW := ((hrd.mono (B' := W0.heap.size) hB0.size).below hB02).mono (B' := W2.heap.size) (by omega) |>.below hI.2
            have hc3 := (hI.2.block (w.heap.size + 1 + 1) (by omega)).trans hc2
            have hcell3 : W.cell? ⟨w.heap.size + 1 + 1, 0, none⟩ = some (.int .i64 0) := by simp [World.cell?, hc3]
            have hfz3 : W.frozen? ⟨w.heap.size + 1 + 1, 0, none⟩ = false := by simp [World.frozen?, hc3]
            have HCF := Lib.hid (fun n => ContainsFunc_lt q c _ r1 _ (W.drewN n) (hrdW.drewN n) ec)
            have hiI : (0 : Int) ≤ (i : Int) := by omega
            have hiJ : (i : Int) < (rows.length : Int) := by omega
            have HOK := Lib.hid hok
            have HII := Lib.hid hI
            have HX := Lib.hid hi
            have HQQ := Lib.hid hqq
            rw [← hi, ← hqq]
            clear hok hI hi hqq hrdW hc hr1 hcl hrd hc3
            by_cases hN1 : (r1.length : Int) = N
            · have hb1 : ((r1.length : Int) != N) = false := by rw [bne_eq_false_iff_eq]; exact hN1
              have HN1 := Lib.hid hN1
              clear hN1
              obtain ⟨g, hg⟩ : ∃ g, g = anyGe q r1 := ⟨_, rfl⟩
              rw [← hg] at HCF HOK
              clear hg
              cases g
              · gi_wp2_with fail
                refine wpInR_region_quiet0 (by kernel_rfl) (by kernel_rfl) (by kernel_rfl) ?_
                repeat (go_big_quiet_step ((go_at_call 50; exact quiet_left (HCF.out _))))
                refine wpQuiet_nil ?_
                rintro _ ⟨nq, rfl⟩
                all_goals
                  gi_wp2
                  refine ⟨keepsFrom_below (below_drewN (Below.refl _ _) _), (KeepP.refl _).drewN _, ?_, below_drewN HII.out.2 _⟩
                  intro y hy
                  rcases List.mem_append.1 hy with hy | hy
                  · exact HII.out.1 y hy
                  · obtain rfl := List.mem_singleton.1 hy
                    rw [HOK.out]; simp [HN1.out]
              · gi_wp2_with fail
                refine wpInR_region_quiet0 (by kernel_rfl) (by kernel_rfl) (by kernel_rfl) ?_
                repeat (go_big_quiet_step ((go_at_call 50; exact quiet_left (HCF.out _))))
                refine wpQuiet_nil ?_
                rintro _ ⟨nq, rfl⟩
                all_goals
                  gi_wp2
                  refine ⟨keepsFrom_drewN (keepsFrom_setCell (KeepsFrom.refl _ _) _ _) _, rfl, ⟨x, by simp, by rw [HOK.out]; simp⟩, ?_, ?_⟩
                  · have hc3 := (HII.out.2.block (w.heap.size + 1 + 1) (by omega)).trans hc2
                    simp [World.setCell, Array.getElem?_modify, hc3]
                  · exact below_drewN ((hB2.trans (HII.out.2.mono hB2.size)).setCell (by simp; omega) _) _
            · have hb1 : ((r1.length : Int) != N) = true := by rw [bne_iff_ne]; exact hN1
              have HN1 := Lib.hid hN1
              clear hN1
              gi_wp2_with fail
              refine wpInR_region_quiet0 (by kernel_rfl) (by kernel_rfl) (by kernel_rfl) ?_
              repeat (go_big_quiet_step (fail))
              refine wpQuiet_nil ?_
              rintro _ ⟨nq, rfl⟩
              all_goals
                gi_wp2
                refine ⟨keepsFrom_drewN (keepsFrom_setCell (KeepsFrom.refl _ _) _ _) _, rfl, ⟨x, by simp, by rw [HOK.out]; simp [HN1.out]⟩, ?_, ?_⟩
                · have hc3 := (HII.out.2.block (w.heap.size + 1 + 1) (by omega)).trans hc2
                  simp [World.setCell, Array.getElem?_modify, hc3]
                · exact below_drewN ((hB2.trans (HII.out.2.mono hB2.size)).setCell (by simp; omega) _) _
          case done =>
            intro D W hD hI hdf
            obtain rfl : r = true := by
              rw [HR.out]
              have h1 := hI.1
              rw [Bool.and_eq_true, List.all_eq_true]
              exact ⟨by simp [HRL.out, HML.out], h1⟩
            have hc3 := (hI.2.block (w.heap.size + 1 + 1) (by omega)).trans hc2
            have hcell3 : W.cell? ⟨w.heap.size + 1 + 1, 0, none⟩ = some (.int .i64 0) := by simp [World.cell?, hc3]
            have hfz3 : W.frozen? ⟨w.heap.size + 1 + 1, 0, none⟩ = false := by simp [World.frozen?, hc3]
            have hD' : w.heap.size + 1 + 1 ≠ D := by have := hD; simp at this; omega
            gi_wp2
            refine postM_mark (v := .int .i64 0) ((Below.heap_setCell _ _ _ _ (by simp; omega)).trans hdf) ?_ rfl ⟨rfl, ?_⟩
            · have hh := (heap_putObj_ne (w := W.setCell ⟨w.heap.size + 1 + 1, 0, none⟩ (.int .i64 0)) (Obj.deferred none) hD')
              have hcell4 : ((W.setCell ⟨w.heap.size + 1 + 1, 0, none⟩ (.int .i64 0)).putObj D (.deferred none)).cell? ⟨w.heap.size + 1 + 1, 0, none⟩ = some (.int .i64 0) := by
                rw [World.cell?_of_block (a := ⟨w.heap.size + 1 + 1, 0, none⟩) hh]; simp [World.cell?, World.setCell, Array.getElem?_modify, hc3]
              simp [results, Try.results31, go_sem, hcell4]
            · exact ((hB2.trans (hI.2.mono hB2.size)).setCell (by simp; omega) _).trans (belowK_b (w := w) (Nat.le_refl _) _ D _ _ (by have := hB2.size; have := hD; simp at this; omega) ((Below.heap_setCell _ _ _ _ (by simp; omega)).trans hdf) rfl rfl)
          case stop =>
            intro D pre W hD hpre hI hdf
            obtain rfl : r = false := by
              rw [HR.out]
              obtain ⟨x, hx, hxo⟩ := hI.1
              rw [Bool.and_eq_false_iff, List.all_eq_false]
              exact .inr ⟨x, by simp, by rw [hxo]; simp⟩
            have hcell3 : W.cell? ⟨w.heap.size + 1 + 1, 0, none⟩ = some (.int .i64 2) := by simp [World.cell?, hI.2.1]
            have hD' : w.heap.size + 1 + 1 ≠ D := by have := hD; simp at this; omega
            refine postM_mark (v := .int .i64 2) hdf ?_ rfl ⟨rfl, ?_⟩
            · have hh := (heap_putObj_ne (w := W) (Obj.deferred none) hD')
              have hcell4 : (W.putObj D (.deferred none)).cell? ⟨w.heap.size + 1 + 1, 0, none⟩ = some (.int .i64 2) := by
                simp [World.cell?, hh, hI.2.1]
              simp [results, Try.results31, go_sem, hcell4]
            · exact hI.2.2.trans (belowK_b (w := w) (Nat.le_refl _) _ D _ _ (by have := hB2.size; have := hD; simp at this; omega) hdf rfl rfl)
        · obtain rfl : R = lv + 1 := by rw [HRR.out]; simp
          have hq : ((rows.length : Int) != (lv : Int) + 1) = false := by rw [bne_eq_false_iff_eq, HRL.out]; try simp
          gi_wp2_with fail
          refine ⟨trivial, (moduli_in _ _ _ _ _).mono ?_⟩
          rintro e w2 ⟨rfl, rfl⟩
          gi_wp2_with fail
          obtain ⟨W2, hW2⟩ : ∃ W2, W2 = ((W0.alloc (.cells #[.pointer (some ⟨w.heap.size, 0, none⟩)] 55)).alloc (.cells #[.int .i64 (lv : Int)] 3)).alloc (.cells #[.bool true] 4) := ⟨_, rfl⟩
          have hB2 : Below w.heap.size w W2 := by rw [hW2]; exact ((hB0.alloc hB0.size _).alloc (by have := hB0.size; simp; omega) _).alloc (by have := hB0.size; simp; omega) _
          have hB02 : Below W0.heap.size W0 W2 := by rw [hW2]; exact (((Below.refl _ W0).alloc (Nat.le_refl _) _).alloc (by simp) _).alloc (by simp; omega) _
          have k0 : W2.heap[W0.heap.size]? = some (.cells #[.pointer (some ⟨w.heap.size, 0, none⟩)] 55) := by
            rw [hW2, Below.heap_alloc _ _ _ (by simp; omega), Below.heap_alloc _ _ _ (by simp)]; exact alloc_last _ _ rfl
          have k1 : W2.heap[W0.heap.size + 1]? = some (.cells #[.int .i64 (lv : Int)] 3) := by
            rw [hW2, Below.heap_alloc _ _ _ (by simp)]; exact alloc_last _ _ (by simp)
          have k2 : W2.heap[W0.heap.size + 2]? = some (.cells #[.bool true] 4) := by
            rw [hW2]; exact alloc_last _ _ (by simp)
          have hz2 := lt_of_heap k2
          have hp2 := (hB02.block w.heap.size (by omega)).trans HP0.out
          have ha2 := (hB02.block (w.heap.size + 1) (by omega)).trans HA0.out
          have hc2 := (hB02.block (w.heap.size + 1 + 1) (by omega)).trans hc0
          have hr2 := (HR0.out.mono (B' := W0.heap.size) hB0.size).below hB02
          have hrow2 := (HROW.out.mono (B' := W0.heap.size) hB0.size).below hB02
          rw [← hW2]
          clear hW2
          have hSC := hr2.blk (by simp; omega)
          refine wpIn_range_box (n := 5) (by omega) rfl (enters_of Try.func58 (by kernel_rfl) rfl) (S := fun b => b < W2.heap.size) (w := W2.drewN n1) (fun _ h => h)
            (moduli_stops 4 (by omega) W0.heap.size w.heap.size (fun b => b < W2.heap.size) N pr pw wt er cv chain sp lv true W0.heap.size hl2 hlc (W2.drewN n1) (fun _ h => h) (by omega) (by omega) hz2 (by omega)
              (fun a n c b off h1 h2 => Nat.lt_of_lt_of_le (hSC a n c b off h1 h2) (by omega)) k0 k1 k2 hp2 (hr2.drewN n1)) (fun _ => rfl)
            (fun pre W => (∀ x ∈ pre, okRow N (modl chain sp lv true) rows x = true) ∧ Below W2.heap.size W2 W)
            (fun pre W => (∃ x ∈ pre, okRow N (modl chain sp lv true) rows x = false) ∧ W.heap[w.heap.size + 1 + 1]? = some (.cells #[.int .i64 2] 34) ∧ Below w.heap.size w W)
            ((ownFrom_pure _ _).and (ownFrom_below (Nat.le_refl _) (Nat.le_refl _)))
            ((ownFrom_pure _ _).and ((ownFrom_cells _ _ (fun _ => w.heap.size + 1 + 1) (fun _ => #[.int .i64 2]) 34 (0, 0) (fun _ _ h => h) (fun _ _ h => h)).and (ownFrom_below (Nat.le_refl _) hB2.size)))
            ⟨by simp, below_drewN (Below.refl _ _) _⟩
            (fun x c => [(34, .int .i64 (x.val : Int)), (35, .int .u32 (modAt (modl chain sp lv true) x : Int)), (6, .int .i64 (x.val : Int)), (7, .pointer (some ⟨c, 0, none⟩))])
            (fun x => .cells #[.int .u32 (modAt (modl chain sp lv true) x : Int)] 22) (fun _ => rfl) ?assign ?body ?done ?stop
          case assign =>
            intro l pre x W K hp hK
            unfold ModEnc
            gi_wp2
            exact hK W.heap.size _ _ (keepsFrom_below ((Below.refl _ _).alloc (Nat.le_refl _) _)) ((KeepP.refl _).alloc (fun b hb => Nat.lt_of_lt_of_le hb hp.2.size) _) ⟨hp.1, hp.2.alloc hp.2.size _⟩ rfl (alloc_last _ _ rfl)
          case body =>
            intro l pre x c W hl hI hc hN
            simp only [List.foldl_cons, List.foldl_nil, List.setIfInBounds_toArray, List.set_cons_succ, List.set_cons_zero]
            have hxr : x.val < rows.length := by rw [HRL.out]; have := x.isLt; have := HML.out; omega
            obtain ⟨r1, hr1⟩ : ∃ r1, rows[x.val]? = some r1 := ⟨rows[x.val], List.getElem?_eq_getElem hxr⟩
            obtain ⟨b, off, b2, c2, rfl, hb, hcl, hrd⟩ := HSH.out _ _ hr1
            obtain ⟨i, hi⟩ : ∃ i, i = x.val := ⟨_, rfl⟩
            have hok : okRow N (modl chain sp lv true) rows x = (decide ((r1.length : Int) = N) && !anyGe (modAt (modl chain sp lv true) x) r1) := by unfold okRow; rw [hr1]; rfl
            obtain ⟨q, hqq⟩ : ∃ q, q = (modAt (modl chain sp lv true) x) := ⟨_, rfl⟩
            rw [← hqq] at hok hc
            rw [← hi] at hcl hxr
            have e2 : W.cell? ⟨w.heap.size + 1, 2, none⟩ = some (.slice (some ⟨b, off, none⟩) rows.length rcap) := by
              rw [World.cell?_of_block (a := ⟨w.heap.size + 1, 2, none⟩) (hI.2.block (w.heap.size + 1) (by omega))]; simp [World.cell?, ha2]
            have eN : W.cell? ⟨w.heap.size, 0, none⟩ = some (.int .i64 N) := by
              rw [World.cell?_of_block (a := ⟨w.heap.size, 0, none⟩) (hI.2.block (w.heap.size) (by omega))]; simp [World.cell?, hp2]
            have er : W.cell? ⟨b, off + i, none⟩ = some (.slice b2 r1.length c2) := by
              rw [World.cell?_of_block (a := ⟨b, off + i, none⟩) (hI.2.block b (by omega)), World.cell?_of_block (a := ⟨b, off + i, none⟩) (hB02.block b (by have := hB0.size; omega))]; exact hcl
            have ec : W.cell? ⟨c, 0, none⟩ = some (.int .u32 (q : Int)) := by simp [World.cell?, hc]
            have hrdW := ((hrd.mono (B' := W0.heap.size) hB0.size).below hB02).mono (B' := W2.heap.size) (by omega) |>.below hI.2
            have hc3 := (hI.2.block (w.heap.size + 1 + 1) (by omega)).trans hc2
            have hcell3 : W.cell? ⟨w.heap.size + 1 + 1, 0, none⟩ = some (.int .i64 0) := by simp [World.cell?, hc3]
            have hfz3 : W.frozen? ⟨w.heap.size + 1 + 1, 0, none⟩ = false := by simp [World.frozen?, hc3]
            have HCF := Lib.hid (fun n => ContainsFunc_lt q c _ r1 _ (W.drewN n) (hrdW.drewN n) ec)
            have hiI : (0 : Int) ≤ (i : Int) := by omega
            have hiJ : (i : Int) < (rows.length : Int) := by omega
            have HOK := Lib.hid hok
            have HII := Lib.hid hI
            have HX := Lib.hid hi
            have HQQ := Lib.hid hqq
            rw [← hi, ← hqq]
            clear hok hI hi hqq hrdW hc hr1 hcl hrd hc3
            by_cases hN1 : (r1.length : Int) = N
            · have hb1 : ((r1.length : Int) != N) = false := by rw [bne_eq_false_iff_eq]; exact hN1
              have HN1 := Lib.hid hN1
              clear hN1
              obtain ⟨g, hg⟩ : ∃ g, g = anyGe q r1 := ⟨_, rfl⟩
              rw [← hg] at HCF HOK
              clear hg
              cases g
              · gi_wp2_with fail
                refine wpInR_region_quiet0 (by kernel_rfl) (by kernel_rfl) (by kernel_rfl) ?_
                repeat (go_big_quiet_step ((go_at_call 50; exact quiet_left (HCF.out _))))
                refine wpQuiet_nil ?_
                rintro _ ⟨nq, rfl⟩
                all_goals
                  gi_wp2
                  refine ⟨keepsFrom_below (below_drewN (Below.refl _ _) _), (KeepP.refl _).drewN _, ?_, below_drewN HII.out.2 _⟩
                  intro y hy
                  rcases List.mem_append.1 hy with hy | hy
                  · exact HII.out.1 y hy
                  · obtain rfl := List.mem_singleton.1 hy
                    rw [HOK.out]; simp [HN1.out]
              · gi_wp2_with fail
                refine wpInR_region_quiet0 (by kernel_rfl) (by kernel_rfl) (by kernel_rfl) ?_
                repeat (go_big_quiet_step ((go_at_call 50; exact quiet_left (HCF.out _))))
                refine wpQuiet_nil ?_
                rintro _ ⟨nq, rfl⟩
                all_goals
                  gi_wp2
                  refine ⟨keepsFrom_drewN (keepsFrom_setCell (KeepsFrom.refl _ _) _ _) _, rfl, ⟨x, by simp, by rw [HOK.out]; simp⟩, ?_, ?_⟩
                  · have hc3 := (HII.out.2.block (w.heap.size + 1 + 1) (by omega)).trans hc2
                    simp [World.setCell, Array.getElem?_modify, hc3]
                  · exact below_drewN ((hB2.trans (HII.out.2.mono hB2.size)).setCell (by simp; omega) _) _
            · have hb1 : ((r1.length : Int) != N) = true := by rw [bne_iff_ne]; exact hN1
              have HN1 := Lib.hid hN1
              clear hN1
              gi_wp2_with fail
              refine wpInR_region_quiet0 (by kernel_rfl) (by kernel_rfl) (by kernel_rfl) ?_
              repeat (go_big_quiet_step (fail))
              refine wpQuiet_nil ?_
              rintro _ ⟨nq, rfl⟩
              all_goals
                gi_wp2
                refine ⟨keepsFrom_drewN (keepsFrom_setCell (KeepsFrom.refl _ _) _ _) _, rfl, ⟨x, by simp, by rw [HOK.out]; simp [HN1.out]⟩, ?_, ?_⟩
                · have hc3 := (HII.out.2.block (w.heap.size + 1 + 1) (by omega)).trans hc2
                  simp [World.setCell, Array.getElem?_modify, hc3]
                · exact below_drewN ((hB2.trans (HII.out.2.mono hB2.size)).setCell (by simp; omega) _) _
          case done =>
            intro D W hD hI hdf
            obtain rfl : r = true := by
              rw [HR.out]
              have h1 := hI.1
              rw [Bool.and_eq_true, List.all_eq_true]
              exact ⟨by simp [HRL.out, HML.out], h1⟩
            have hc3 := (hI.2.block (w.heap.size + 1 + 1) (by omega)).trans hc2
            have hcell3 : W.cell? ⟨w.heap.size + 1 + 1, 0, none⟩ = some (.int .i64 0) := by simp [World.cell?, hc3]
            have hfz3 : W.frozen? ⟨w.heap.size + 1 + 1, 0, none⟩ = false := by simp [World.frozen?, hc3]
            have hD' : w.heap.size + 1 + 1 ≠ D := by have := hD; simp at this; omega
            gi_wp2
            refine postM_mark (v := .int .i64 0) ((Below.heap_setCell _ _ _ _ (by simp; omega)).trans hdf) ?_ rfl ⟨rfl, ?_⟩
            · have hh := (heap_putObj_ne (w := W.setCell ⟨w.heap.size + 1 + 1, 0, none⟩ (.int .i64 0)) (Obj.deferred none) hD')
              have hcell4 : ((W.setCell ⟨w.heap.size + 1 + 1, 0, none⟩ (.int .i64 0)).putObj D (.deferred none)).cell? ⟨w.heap.size + 1 + 1, 0, none⟩ = some (.int .i64 0) := by
                rw [World.cell?_of_block (a := ⟨w.heap.size + 1 + 1, 0, none⟩) hh]; simp [World.cell?, World.setCell, Array.getElem?_modify, hc3]
              simp [results, Try.results31, go_sem, hcell4]
            · exact ((hB2.trans (hI.2.mono hB2.size)).setCell (by simp; omega) _).trans (belowK_b (w := w) (Nat.le_refl _) _ D _ _ (by have := hB2.size; have := hD; simp at this; omega) ((Below.heap_setCell _ _ _ _ (by simp; omega)).trans hdf) rfl rfl)
          case stop =>
            intro D pre W hD hpre hI hdf
            obtain rfl : r = false := by
              rw [HR.out]
              obtain ⟨x, hx, hxo⟩ := hI.1
              rw [Bool.and_eq_false_iff, List.all_eq_false]
              exact .inr ⟨x, by simp, by rw [hxo]; simp⟩
            have hcell3 : W.cell? ⟨w.heap.size + 1 + 1, 0, none⟩ = some (.int .i64 2) := by simp [World.cell?, hI.2.1]
            have hD' : w.heap.size + 1 + 1 ≠ D := by have := hD; simp at this; omega
            refine postM_mark (v := .int .i64 2) hdf ?_ rfl ⟨rfl, ?_⟩
            · have hh := (heap_putObj_ne (w := W) (Obj.deferred none) hD')
              have hcell4 : (W.putObj D (.deferred none)).cell? ⟨w.heap.size + 1 + 1, 0, none⟩ = some (.int .i64 2) := by
                simp [World.cell?, hh, hI.2.1]
              simp [results, Try.results31, go_sem, hcell4]
            · exact hI.2.2.trans (belowK_b (w := w) (Nat.le_refl _) _ D _ _ (by have := hB2.size; have := hD; simp at this; omega) hdf rfl rfl)
      · obtain rfl : r = false := by
          rw [HR.out, show decide (rows.length = (modl chain sp lv special).length) = false by rw [HML.out]; simp [hrl]]; rfl
        cases special
        · obtain rfl : lv = R := by rw [HRR.out]; simp
          have hq : ((rows.length : Int) != (lv : Int)) = true := by rw [bne_iff_ne]; omega
          clear hrl
          gi_wp2
          refine postM_ret (v := .int .i64 2) ?_ rfl ⟨rfl, ?_⟩
          · simp [results, Try.results31, go_sem, hcell]
          · exact (below_drewN hB0 n1).setCell (by simp; omega) _
        · obtain rfl : R = lv + 1 := by rw [HRR.out]; simp
          have hq : ((rows.length : Int) != (lv : Int) + 1) = true := by rw [bne_iff_ne]; omega
          clear hrl
          gi_wp2
          refine postM_ret (v := .int .i64 2) ?_ rfl ⟨rfl, ?_⟩
          · simp [results, Try.results31, go_sem, hcell]
          · exact (below_drewN hB0 n1).setCell (by simp; omega) _
end Go.Proofs.Ytpcpgmgpkegjlaa
