/- Walks: elements of integers, the function. -/
import Derived.Test.YtpcpgmgpkegjlaaGA8
namespace Go.Proofs.Ytpcpgmgpkegjlaa
open Go.RowKit Go.Shelf Go.BigFrame
theorem okTo_get {chain : List Nat} {k : Nat} (h : okTo chain k = true) (i q : Nat) (hi : i < k) (hq : chain[i]? = some q) : modB q = true := by
  unfold okTo at h
  rw [List.all_eq_true] at h
  have := h i (by simpa using hi)
  rw [hq] at this
  simp at this
  exact this.1
theorem modB_lt {q : Nat} (h : modB q = true) : 3 ≤ q ∧ q ≤ 2147483647 := by
  unfold modB at h
  simp only [Bool.and_eq_true, decide_eq_true_eq] at h
  exact ⟨h.1.1, h.1.2⟩
/-- The moduli of valid parameters are moduli. -/
theorem modAt_ok {N : Int} {chain : List Nat} {sp lv : Nat} {special : Bool} (hv : validB N chain sp = true) (hp : placeB chain sp (lv : Int) special = true) (x : Fin (modl chain sp lv special).length) : 3 ≤ modAt (modl chain sp lv special) x ∧ modAt (modl chain sp lv special) x ≤ 2147483647 := by
  refine modB_lt ?_
  have hm : modAt (modl chain sp lv special) x ∈ modl chain sp lv special := List.getElem_mem _
  generalize modAt (modl chain sp lv special) x = q at hm
  unfold modl at hm
  unfold validB at hv
  simp only [Bool.and_eq_true] at hv
  rcases List.mem_append.1 hm with hm | hm
  · have hm := List.mem_of_mem_take hm
    obtain ⟨i, hi, rfl⟩ := List.getElem_of_mem hm
    exact okTo_get hv.2 i _ hi (List.getElem?_eq_getElem hi)
  · cases special
    · simp at hm
    · simp at hm
      subst hm
      have h1 : q ≠ 0 := by
        unfold placeB at hp
        simp at hp
        exact hp.2
      have h2 := hv.1.2.2
      unfold spB at h2
      simp [h1] at h2
      exact h2.1
theorem finRange_map {β : Type} (l : List Nat) (f : Nat → β) : (List.finRange l.length).map (fun x => f (modAt l x)) = l.map f := by
  apply List.ext_getElem
  · simp
  · intro i h1 h2; simp [modAt]
def intsB (N : Int) (chain : List Nat) (sp : Nat) (level : Int) (special : Bool) (l : List Int) : Bool := preB N chain sp level special && decide ((l.length : Int) = N)
/-- The rows of an element of integers. -/
def intRows (ml : List Nat) (l : List Int) : List (List Nat) := ml.map fun q => l.map (resN q)
theorem sizeB_nat {N : Int} {chain : List Nat} {sp : Nat} (h : validB N chain sp = true) : ∃ n : Nat, N = (n : Int) ∧ 4 ≤ n ∧ n ≤ 32 := by
  unfold validB sizeB at h
  simp only [Bool.and_eq_true, Bool.or_eq_true, beq_iff_eq] at h
  exact ⟨N.toNat, by omega, by omega, by omega⟩
/-- What the function answers. -/
def IntsPost (N : Int) (chain : List Nat) (sp : Nat) (level : Int) (special : Bool) (l : List Int) (w : World) (e : Ending) (w' : World) : Prop :=
  (if intsB N chain sp level special l then ∃ rv, e = .returned (.tuple #[.agg #[.int .i64 level, .bool special, rv], .int .i64 0]) ∧ w'.rows u32V w'.heap.size rv (intRows (modl chain sp level.toNat special) l)
    else e = .returned (.tuple #[.agg #[.int .i64 0, .bool false, .slice none 0 0], .int .i64 2])) ∧ Below w.heap.size w w'
set_option maxRecDepth 100000 in
set_option maxHeartbeats 8000000 in
theorem FromInts_any (N pr pw wt er : Int) (cv : Value) (chain : List Nat) (sp : Nat) (level : Int) (special : Bool) (lw : Value) (l : List Int) (w : World) (hr : w.reads w.heap.size cv (chain.map u32V)) (hl : w.reads w.heap.size lw (l.map i64V)) :
    Calls Try.prog 53 #[.agg #[.int .i64 N, .int .u32 pr, .int .i64 pw, cv, .int .u32 (sp : Int), .int .i64 wt, .int .u32 er], .int .i64 level, .bool special, lw] w (IntsPost N chain sp level special l w) := by
  obtain ⟨la, lcap, rfl, hlc, hlm, -⟩ := reads_i64 hl
  obtain ⟨W0, hW0⟩ : ∃ W0, W0 = (((w.alloc (.cells #[.int .i64 N, .int .u32 pr, .int .i64 pw, cv, .int .u32 (sp : Int), .int .i64 wt, .int .u32 er] 25)).alloc (.cells #[.slice la l.length lcap] 45)).alloc (.cells #[.int .i64 0, .bool false, .slice none 0 0] 28)) := ⟨_, rfl⟩
  have hB0 : Below w.heap.size w W0 := by rw [hW0]; exact (((Below.refl _ w).alloc (Nat.le_refl _) _).alloc (by simp) _).alloc (by simp; omega) _
  have hp0 : W0.heap[w.heap.size]? = some (.cells #[.int .i64 N, .int .u32 pr, .int .i64 pw, cv, .int .u32 (sp : Int), .int .i64 wt, .int .u32 er] 25) := by
    rw [hW0, Below.heap_alloc _ _ _ (by simp; omega), Below.heap_alloc _ _ _ (by simp)]; exact alloc_last _ _ rfl
  have ha0 : W0.heap[w.heap.size + 1]? = some (.cells #[.slice la l.length lcap] 45) := by
    rw [hW0, Below.heap_alloc _ _ _ (by simp)]; exact alloc_last _ _ (by simp)
  have hc0 : W0.heap[w.heap.size + 1 + 1]? = some (.cells #[.int .i64 0, .bool false, .slice none 0 0] 28) := by
    rw [hW0]; exact alloc_last _ _ (by simp)
  have hr0 := hr.below hB0
  have hl0 := hl.below hB0
  have hz0 := lt_of_heap hc0
  have HV := Lib.hid (fun W h1 h2 => valid_any N pr pw wt er cv chain sp w.heap.size w.heap.size W h1 h2)
  have HP := Lib.hid (fun W h1 h2 => place_any N pr pw wt er cv chain sp level special w.heap.size w.heap.size W h1 h2)
  obtain ⟨r, hrr⟩ : ∃ r, r = intsB N chain sp level special l := ⟨_, rfl⟩
  have hpost : ∀ e w', ((if r then ∃ rv, e = .returned (.tuple #[.agg #[.int .i64 level, .bool special, rv], .int .i64 0]) ∧ w'.rows u32V w'.heap.size rv (intRows (modl chain sp level.toNat special) l)
    else e = .returned (.tuple #[.agg #[.int .i64 0, .bool false, .slice none 0 0], .int .i64 2])) ∧ Below w.heap.size w w') → IntsPost N chain sp level special l w e w' := by
    intro e w' h; unfold IntsPost; rw [← hrr]; exact h
  have HR := Lib.hid hrr
  have HPOST := Lib.hid hpost
  clear hrr hpost
  have HR0 := Lib.hid hr0
  have HL0 := Lib.hid hl0
  have HP0 := Lib.hid hp0
  have HW0 := Lib.hid hW0
  have HA0 := Lib.hid ha0
  have hcell0 : W0.cell? ⟨w.heap.size + 1 + 1, 0, none⟩ = some (.int .i64 0) := by simp [World.cell?, hc0]
  have hcell1 : W0.cell? ⟨w.heap.size + 1 + 1, 1, none⟩ = some (.bool false) := by simp [World.cell?, hc0]
  have hcell2 : W0.cell? ⟨w.heap.size + 1 + 1, 2, none⟩ = some (.slice none 0 0) := by simp [World.cell?, hc0]
  have hfz0 : W0.frozen? ⟨w.heap.size + 1 + 1, 0, none⟩ = false := by simp [World.frozen?, hc0]
  have hfz1 : W0.frozen? ⟨w.heap.size + 1 + 1, 1, none⟩ = false := by simp [World.frozen?, hc0]
  have hfz2 : W0.frozen? ⟨w.heap.size + 1 + 1, 2, none⟩ = false := by simp [World.frozen?, hc0]
  clear hr hl hr0 hl0 hW0
  go_enter Try.func53, Try.ntmps53
  go_wp2_with fail
  rw [← HW0.out]
  cases hv : validB N chain sp
  · obtain rfl : r = false := by rw [HR.out, intsB, preB, hv]; rfl
    rw [hv] at HV
    refine (HV.out _ HR0.out HP0.out).mono ?_
    rintro e w1 ⟨rfl, n1, rfl⟩
    clear HV HP hv hp0 ha0
    go_wp2
    refine bodyPost_ret (v := .tuple #[.agg #[.int .i64 0, .bool false, .slice none 0 0], .int .i64 2]) ?_ rfl (HPOST.out _ _ ⟨rfl, ?_⟩)
    · simp [results, Try.results53, go_sem, hcell0, hcell1, hcell2]
    · exact below_drewN (((hB0.setCell (by simp; omega) _).setCell (by simp; omega) _).setCell (by simp; omega) _) _
  · rw [hv] at HV
    refine (HV.out _ HR0.out HP0.out).mono ?_
    rintro e w1 ⟨rfl, n1, rfl⟩
    clear HV
    go_wp2_with fail
    cases hpl : placeB chain sp level special
    · obtain rfl : r = false := by rw [HR.out, intsB, preB, hpl]; simp
      rw [hpl] at HP
      refine (HP.out _ (HR0.out.drewN _) HP0.out).mono ?_
      rintro e w1 ⟨rfl, rfl⟩
      clear HP hv hpl hp0 ha0
      go_wp2
      refine bodyPost_ret (v := .tuple #[.agg #[.int .i64 0, .bool false, .slice none 0 0], .int .i64 2]) ?_ rfl (HPOST.out _ _ ⟨rfl, ?_⟩)
      · simp [results, Try.results53, go_sem, hcell0, hcell1, hcell2]
      · exact below_drewN (((hB0.setCell (by simp; omega) _).setCell (by simp; omega) _).setCell (by simp; omega) _) _
    · obtain ⟨lv, rfl, hl1, hl2⟩ := levB_nat hpl
      obtain ⟨n, rfl, hn1, hn2⟩ := sizeB_nat hv
      have hl24 := (validB_len hv).2
      have hmb : ∀ x, 3 ≤ modAt (modl chain sp lv special) x ∧ modAt (modl chain sp lv special) x ≤ 2147483647 := modAt_ok hv hpl
      have hck : intsB (n : Int) chain sp (lv : Int) special l = decide (l.length = n) := by
        rw [intsB, preB, hv, hpl]; simp; omega
      rw [hck] at HR
      rw [hpl] at HP
      refine (HP.out _ (HR0.out.drewN _) HP0.out).mono ?_
      rintro e w1 ⟨rfl, rfl⟩
      have HMB := Lib.hid hmb
      clear HP hv hpl hck hmb
      have a0 : W0.cell? ⟨w.heap.size + 1, 0, none⟩ = some (.slice la l.length lcap) := by simp [World.cell?, ha0]
      have p0 : W0.cell? ⟨w.heap.size, 0, none⟩ = some (.int .i64 (n : Int)) := (par_cells hp0).1
      clear hp0 ha0
      by_cases hln : l.length = n
      · obtain rfl : r = true := by rw [HR.out]; simp [hln]
        subst hln
        have hq : ((l.length : Int) != (l.length : Int)) = false := by simp
        have hF : Fills 61 #[.pointer (some ⟨w.heap.size + 1, 0, none⟩)] l.length (fun x => #[.int .i64 (x.val : Int), .int .u64 (modAt (modl chain sp lv special) x : Int)]) (fun x => l.map (resN (modAt (modl chain sp lv special) x))) (W0.drewN n1) := by
          intro x g W hB hg hz
          have hm := HMB.out x
          have hlW : W.reads (W0.drewN n1).heap.size (.slice la l.length lcap) (l.map i64V) := ((HL0.out.drewN n1).mono (by simpa using hB0.size)).below hB
          have hcW : W.heap[w.heap.size + 1]? = some (.cells #[.slice la l.length lcap] 45) := (hB.block (w.heap.size + 1) (by simp; omega)).trans HA0.out
          exact fromInts1_any (x.val : Int) (modAt (modl chain sp lv special) x) (by omega) (by omega) l _ l.length g (w.heap.size + 1) _ rfl W hlW hg hcW (by simp; omega) hz
        have HE := Lib.hid (fun W (hW : W = W0.drewN n1) => each_any l.length (by omega) pr pw wt er cv chain sp lv special w.heap.size W hl2 hl24 hl1 (fun x => by have := HMB.out x; omega) (by rw [hW]; exact (HR0.out.drewN n1).mono (by simpa using hB0.size)) (by rw [hW]; exact HP0.out) 61 #[.pointer (some ⟨w.heap.size + 1, 0, none⟩)] (fun x => l.map (resN (modAt (modl chain sp lv special) x))) (by simp) (by rw [hW]; exact hF) (enters_of Try.func61 (by kernel_rfl) rfl))
        clear hF
        go_wp2_with fail
        refine (HE.out _ rfl).mono ?_
        rintro e w3 ⟨⟨rv, rfl, hrows⟩, hb3⟩
        have hHR := Lib.hid hrows
        have hc3 := (hb3.block (w.heap.size + 1 + 1) (by simp; omega)).trans hc0
        obtain ⟨ra, rcap, rfl, -⟩ := hrows.now.shape
        have k0 : w3.cell? ⟨w.heap.size + 1 + 1, 0, none⟩ = some (.int .i64 0) := by simp [World.cell?, hc3]
        have k1 : w3.cell? ⟨w.heap.size + 1 + 1, 1, none⟩ = some (.bool false) := by simp [World.cell?, hc3]
        have k2 : w3.cell? ⟨w.heap.size + 1 + 1, 2, none⟩ = some (.slice none 0 0) := by simp [World.cell?, hc3]
        have z0 : w3.frozen? ⟨w.heap.size + 1 + 1, 0, none⟩ = false := by simp [World.frozen?, hc3]
        have z1 : w3.frozen? ⟨w.heap.size + 1 + 1, 1, none⟩ = false := by simp [World.frozen?, hc3]
        have z2 : w3.frozen? ⟨w.heap.size + 1 + 1, 2, none⟩ = false := by simp [World.frozen?, hc3]
        have hb3' : Below w.heap.size w w3 := (below_drewN hB0 n1).trans (hb3.mono (by simpa using hB0.size))
        have hz3 := lt_of_heap hc3
        clear hrows hb3
        go_wp2
        have HW6 : ∀ W6, W6 = ((w3.setCell ⟨w.heap.size + 1 + 1, 0, none⟩ (.int .i64 (lv : Int))).setCell ⟨w.heap.size + 1 + 1, 1, none⟩ (.bool special)).setCell ⟨w.heap.size + 1 + 1, 2, none⟩ (.slice ra (List.map (fun x => l.map (resN (modAt (modl chain sp lv special) x))) (List.finRange (modl chain sp lv special).length)).length rcap) → W6.heap[w.heap.size + 1 + 1]? = some (.cells #[.int .i64 (lv : Int), .bool special, .slice ra (List.map (fun x => l.map (resN (modAt (modl chain sp lv special) x))) (List.finRange (modl chain sp lv special).length)).length rcap] 28) := by
          rintro W6 rfl; simp [World.setCell, Array.getElem?_modify, hc3]
        obtain ⟨W6, hW6⟩ : ∃ W6, W6 = ((w3.setCell ⟨w.heap.size + 1 + 1, 0, none⟩ (.int .i64 (lv : Int))).setCell ⟨w.heap.size + 1 + 1, 1, none⟩ (.bool special)).setCell ⟨w.heap.size + 1 + 1, 2, none⟩ (.slice ra (List.map (fun x => l.map (resN (modAt (modl chain sp lv special) x))) (List.finRange (modl chain sp lv special).length)).length rcap) := ⟨_, rfl⟩
        have hc6 := HW6 W6 hW6
        have hs6 : ∀ g, (W0.drewN n1).heap.size ≤ g → W6.heap[g]? = w3.heap[g]? := by
          intro g hg
          rw [hW6]
          iterate 3 rw [Below.heap_setCell _ _ _ _ (by simp at hg ⊢; omega)]
        have hB6 : Below w.heap.size w W6 := by
          rw [hW6]; exact (((hb3'.setCell (by simp; omega) _).setCell (by simp; omega) _).setCell (by simp; omega) _)
        have hrw6 := hHR.out W6 hs6
        have hmapE : (List.finRange (modl chain sp lv special).length).map (fun x => l.map (resN (modAt (modl chain sp lv special) x))) = intRows (modl chain sp lv special) l := finRange_map _ (fun q => l.map (resN q))
        rw [hmapE] at hrw6 hc6
        rw [List.length_map, List.length_finRange] at hW6
        rw [← hW6]
        have j0 : W6.cell? ⟨w.heap.size + 1 + 1, 0, none⟩ = some (.int .i64 (lv : Int)) := by simp [World.cell?, hc6]
        have j1 : W6.cell? ⟨w.heap.size + 1 + 1, 1, none⟩ = some (.bool special) := by simp [World.cell?, hc6]
        have j2 : W6.cell? ⟨w.heap.size + 1 + 1, 2, none⟩ = some (.slice ra (intRows (modl chain sp lv special) l).length rcap) := by simp [World.cell?, hc6]
        refine bodyPost_ret (v := .tuple #[.agg #[.int .i64 (lv : Int), .bool special, .slice ra (intRows (modl chain sp lv special) l).length rcap], .int .i64 0]) ?_ rfl (HPOST.out _ _ ⟨?_, hB6⟩)
        · simp [results, Try.results53, go_sem, j0, j1, j2]
        · rw [if_pos trivial]
          exact ⟨_, rfl, by simpa using hrw6⟩
      · obtain rfl : r = false := by rw [HR.out]; simp [hln]
        have hq : ((l.length : Int) != (n : Int)) = true := by rw [bne_iff_ne]; omega
        clear hln
        go_wp2
        refine bodyPost_ret (v := .tuple #[.agg #[.int .i64 0, .bool false, .slice none 0 0], .int .i64 2]) ?_ rfl (HPOST.out _ _ ⟨rfl, ?_⟩)
        · simp [results, Try.results53, go_sem, hcell0, hcell1, hcell2]
        · exact below_drewN (((hB0.setCell (by simp; omega) _).setCell (by simp; omega) _).setCell (by simp; omega) _) _
end Go.Proofs.Ytpcpgmgpkegjlaa
