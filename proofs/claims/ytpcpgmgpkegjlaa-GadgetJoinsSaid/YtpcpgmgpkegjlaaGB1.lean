/- Walks: the cutter of a width. -/
import Derived.Test.YtpcpgmgpkegjlaaGA9
import Derived.Deep.RegionHeld3
namespace Go.Proofs.Ytpcpgmgpkegjlaa
open Go.RowKit Go.Shelf Go.BigFrame
def zrow64 (n : Nat) : Array Value := (List.replicate n (Value.int .i64 0)).toArray
theorem infoI64 : (Try.prog.info? 2).map (fun i => (i.zero, i.size, i.bytes)) = some (some (.int .i64 0), 1, 8) := by kernel_rfl
theorem make_i64 (n : Nat) (hn : n ≤ 1000) (W : World) : (Instr.makeSlice 45 (.int .i64 (n : Int)) (.int .i64 (n : Int))).run Try.prog W = .ok (.slice (some ⟨W.heap.size, 0, none⟩) n n) (W.alloc (.cells (zrow64 n) 2)) := by
  obtain ⟨i0, hi, hz, h1, h2⟩ := info_parts infoI64
  have := run_make (P := Try.prog) W 45 2 i0 (.int .i64 0) Try.underlying45 hi hz .i64 .i64 (n : Int) (n : Int) (by omega) (by omega) (by rw [h2]; omega) (by omega)
  simp only [Int.toNat_natCast, h1] at this
  rw [this]
  have hz : madeCells (Value.int IntKind.i64 0).cells (n * 1) = zrow64 n := by
    unfold madeCells zrow64
    apply Array.ext
    · simp
    · intro i h1 h2
      have : (Value.int IntKind.i64 0).cells = #[.int .i64 0] := rfl
      simp [this, Nat.mod_one]
  rw [hz]
theorem z_reads (n : Nat) (hn : n ≤ 1000) (W : World) : (W.alloc (.cells (zrow64 n) 2)).reads (W.alloc (.cells (zrow64 n) 2)).heap.size (.slice (some ⟨W.heap.size, 0, none⟩) n n) ((List.replicate n 0).map i64V) := by
  have := reads_alloc_new W (List.replicate n (Value.int .i64 0)) 2 n (by simp) (by unfold maxLen; omega)
  simp only [List.length_replicate] at this
  unfold zrow64
  simpa [i64V] using this
theorem intsB_zero (N : Int) (chain : List Nat) (sp m : Nat) (hm : max 0 (min N 32) = (m : Int)) : intsB N chain sp 1 false (List.replicate m 0) = validB N chain sp := by
  unfold intsB preB
  cases hv : validB N chain sp
  · rfl
  · obtain ⟨n, rfl, h1, h2⟩ := sizeB_nat hv
    have h3 := (validB_len hv).1
    have : placeB chain sp 1 false = true := by
      unfold placeB levB; simp; omega
    rw [this]
    simp
    omega
theorem ints_err (N pr pw wt er : Int) (cv : Value) (chain : List Nat) (sp m : Nat) (hm : max 0 (min N 32) = (m : Int)) (B : Nat) (lw : Value) (W : World) (hr : W.reads B cv (chain.map u32V)) (hB : B ≤ W.heap.size) (hl : W.reads W.heap.size lw ((List.replicate m 0).map i64V)) :
    Calls Try.prog 53 #[.agg #[.int .i64 N, .int .u32 pr, .int .i64 pw, cv, .int .u32 (sp : Int), .int .i64 wt, .int .u32 er], .int .i64 1, .bool false, lw] W
      fun e W' => (∃ (a : Int) (b : Bool) (la : Option Addr) (ln lc : Nat), e = .returned (.tuple #[.agg #[.int .i64 a, .bool b, .slice la ln lc], .int .i64 (errI (validB N chain sp))])) ∧ Below W.heap.size W W' := by
  refine (FromInts_any N pr pw wt er cv chain sp 1 false lw (List.replicate m 0) W (hr.mono hB) hl).mono ?_
  rintro e W' ⟨h, hb⟩
  refine ⟨?_, hb⟩
  rw [intsB_zero N chain sp m hm] at h
  cases hv : validB N chain sp
  · rw [hv] at h
    exact ⟨0, false, none, 0, 0, h⟩
  · rw [hv] at h
    obtain ⟨rv, h, hrows⟩ := h
    obtain ⟨a, c, rfl, -⟩ := hrows.shape
    exact ⟨1, false, a, _, c, h⟩
/-- Each two of the first k moduli are prime to each other. -/
def coprRow (chain : List Nat) (a j : Nat) : Bool := (List.range j).all fun i => (chain[i]?).all fun b => coprB a b
def coprTo (chain : List Nat) (k : Nat) : Bool := (List.range k).all fun i => (chain[i]?).all fun a => coprRow chain a i
theorem coprRow_succ (chain : List Nat) (a j b : Nat) (h : chain[j]? = some b) : coprRow chain a (j + 1) = (coprRow chain a j && coprB a b) := by
  unfold coprRow; rw [List.range_succ, List.all_append]; simp [h]
theorem coprTo_succ (chain : List Nat) (k a : Nat) (h : chain[k]? = some a) : coprTo chain (k + 1) = (coprTo chain k && coprRow chain a k) := by
  unfold coprTo; rw [List.range_succ, List.all_append]; simp [h]
theorem all_range_mono {p : Nat → Bool} {k m : Nat} (h : (List.range k).all p = false) (hkm : k ≤ m) : (List.range m).all p = false := by
  rw [List.all_eq_false] at *
  obtain ⟨x, hx, h⟩ := h
  exact ⟨x, by simp at *; omega, h⟩
def madeB (N : Int) (chain : List Nat) (sp : Nat) (width : Int) : Bool := decide (2 ≤ width) && decide (width ≤ 31) && validB N chain sp && coprTo chain chain.length
def partsI (width : Int) : Int := (31 + width - 1) / width
/-- What the function answers. -/
def MadePost (N : Int) (chain : List Nat) (sp : Nat) (width : Int) (p : Nat) (w : World) (e : Ending) (w' : World) : Prop :=
  (if madeB N chain sp width then ∃ b, e = .returned (.tuple #[.pointer (some ⟨b, 0, none⟩), .bool true]) ∧ w.heap.size ≤ b ∧ w'.heap[b]? = some (.cells #[.pointer (some ⟨p, 0, none⟩), .int .i64 width, .int .i64 (partsI width)] 59)
    else e = .returned (.tuple #[.pointer none, .bool false])) ∧ Below w.heap.size w w'
set_option maxRecDepth 100000 in
set_option maxHeartbeats 8000000 in
theorem made_any (N pr pw wt er : Int) (cv : Value) (chain : List Nat) (sp : Nat) (width : Int) (p : Nat) (w : World) (hr : w.reads w.heap.size cv (chain.map u32V)) (hcb : ∀ q ∈ chain, q < 4294967296)
    (hp : w.heap[p]? = some (.cells #[.int .i64 N, .int .u32 pr, .int .i64 pw, cv, .int .u32 (sp : Int), .int .i64 wt, .int .u32 er] 25)) :
    Calls Try.prog 33 #[.pointer (some ⟨p, 0, none⟩), .int .i64 width] w (MadePost N chain sp width p w) := by
  obtain ⟨r, hrr⟩ : ∃ r, r = madeB N chain sp width := ⟨_, rfl⟩
  have hpost : ∀ e w', ((if r then ∃ b, e = .returned (.tuple #[.pointer (some ⟨b, 0, none⟩), .bool true]) ∧ w.heap.size ≤ b ∧ w'.heap[b]? = some (.cells #[.pointer (some ⟨p, 0, none⟩), .int .i64 width, .int .i64 (partsI width)] 59)
    else e = .returned (.tuple #[.pointer none, .bool false])) ∧ Below w.heap.size w w') → MadePost N chain sp width p w e w' := by
    intro e w' h; unfold MadePost; rw [← hrr]; exact h
  have HPOST := Lib.hid hpost
  have HR := Lib.hid hrr
  clear hpost hrr
  have hpl := lt_of_heap hp
  obtain ⟨m, hm⟩ : ∃ m : Nat, max 0 (min N 32) = (m : Int) := ⟨(max 0 (min N 32)).toNat, by omega⟩
  have hm32 : m ≤ 32 := by omega
  have hmk := make_i64 m (by omega)
  have HE := Lib.hid (ints_err N pr pw wt er cv chain sp m hm w.heap.size)
  obtain ⟨a, cap, rfl, hcap, hmx, hsh⟩ := reads_u32 hr
  have HRD := Lib.hid hr
  have HS := Lib.hid hsh
  have HP := Lib.hid hp
  obtain ⟨c0, c1, c2, c3, c4, c5, c6⟩ := par_cells hp
  clear hr hsh
  by_cases h1 : 2 ≤ width
  · by_cases h2 : width ≤ 31
    · go_enter Try.func33, Try.ntmps33
      go_upto_region 3 with (fail)
      go_cut [7] (fun s wx => s = .int .i64 (errI (validB N chain sp)) ∧ Below w.heap.size w wx)
      case first =>
        by_cases hn0 : N ≤ 0
        · obtain rfl : m = 0 := by omega
          have hmk0 : ∀ W : World, (Instr.makeSlice 45 (.int .i64 0) (.int .i64 0)).run Try.prog W = .ok (.slice (some ⟨W.heap.size, 0, none⟩) 0 0) (W.alloc (.cells (zrow64 0) 2)) := by simpa using hmk
          have hq1 : ¬ 32 < N := by omega
          have hq2 : ¬ 0 < N := by omega
          clear hmk hm
          have hpl1 : p < w.heap.size + 1 := by omega
          have hpl2 : p < w.heap.size + 1 + 1 := by omega
          have HZ3 := Lib.hid (show ((w.alloc (.cells #[.int .i64 0, .bool false, .slice none 0 0] 28)).alloc (.cells (zrow64 0) 2)).reads ((w.alloc (.cells #[.int .i64 0, .bool false, .slice none 0 0] 28)).alloc (.cells (zrow64 0) 2)).heap.size (.slice (some ⟨w.heap.size + 1, 0, none⟩) 0 0) ((List.replicate 0 0).map i64V) by have h := z_reads 0 (by omega) (w.alloc (.cells #[.int .i64 0, .bool false, .slice none 0 0] 28)); rw [World.size_alloc w] at h; exact h)
          have hpn0 : ¬ p = w.heap.size := by omega
          have hpn1 : ¬ p = w.heap.size + 1 := by omega
          have hpm0 : ¬ w.heap.size = p := by omega
          have hpm1 : ¬ w.heap.size + 1 = p := by omega
          go_region_held3 (fun w' => w'.cell? ⟨p, 0, none⟩ = some (.int .i64 N) ∧ w'.cell? ⟨p, 1, none⟩ = some (.int .u32 pr) ∧ w'.cell? ⟨p, 2, none⟩ = some (.int .i64 pw) ∧ w'.cell? ⟨p, 3, none⟩ = some (.slice a chain.length cap) ∧ w'.cell? ⟨p, 4, none⟩ = some (.int .u32 (sp : Int)) ∧ w'.cell? ⟨p, 5, none⟩ = some (.int .i64 wt) ∧ w'.cell? ⟨p, 6, none⟩ = some (.int .u32 er))
            (first | go_keep | exact ⟨c0, c1, c2, c3, c4, c5, c6⟩)
            (first
              | (go_simp; go_at_call 53; refine (HE.out _ _ (by first | exact (HRD.out.alloc (Nat.le_refl _) _) | exact ((HRD.out.alloc (Nat.le_refl _) _).alloc (by simp) _)) (by first | (simp; done) | (simp; omega)) (by first | exact z_reads 0 (by omega) _ | exact ((z_reads 0 (by omega) w).alloc (Nat.le_refl _) _).mono (by simp) | exact HZ3.out)).mono ?_; rintro e w1 ⟨⟨a1, b1, l1, l2, l3, rfl⟩, hb1⟩; obtain ⟨hc1, hf1⟩ := bcell hb1; have hbW : Below w.heap.size w w1 := (by first | exact (((Below.refl _ w).alloc (Nat.le_refl _) _).drew).trans (hb1.mono (by simp; done)) | exact ((((Below.refl _ w).alloc (Nat.le_refl _) _).alloc (by simp) _).drew).trans (hb1.mono (by simp; omega))); have hs1 := hbW.size))
          all_goals
            go_wp2
            go_meet
            case rel => exact ⟨rfl, by
              repeat (with_reducible first | apply below_drewN | apply Below.drew | refine Below.setCell ?_ (by first | (simp; done) | omega | (simp; omega)) _ | refine Below.alloc ?_ (by first | omega | (simp; done) | (simp; omega)) _ | assumption | exact Below.refl _ _)⟩
        · by_cases hn32 : 32 < N
          · obtain rfl : m = 32 := by omega
            have hmk0 : ∀ W : World, (Instr.makeSlice 45 (.int .i64 32) (.int .i64 32)).run Try.prog W = .ok (.slice (some ⟨W.heap.size, 0, none⟩) 32 32) (W.alloc (.cells (zrow64 32) 2)) := by simpa using hmk
            clear hmk hm hn0
            have hpl1 : p < w.heap.size + 1 := by omega
            have hpl2 : p < w.heap.size + 1 + 1 := by omega
            have HZ3 := Lib.hid (show ((w.alloc (.cells #[.int .i64 0, .bool false, .slice none 0 0] 28)).alloc (.cells (zrow64 32) 2)).reads ((w.alloc (.cells #[.int .i64 0, .bool false, .slice none 0 0] 28)).alloc (.cells (zrow64 32) 2)).heap.size (.slice (some ⟨w.heap.size + 1, 0, none⟩) 32 32) ((List.replicate 32 0).map i64V) by have h := z_reads 32 (by omega) (w.alloc (.cells #[.int .i64 0, .bool false, .slice none 0 0] 28)); rw [World.size_alloc w] at h; exact h)
            have hpn0 : ¬ p = w.heap.size := by omega
            have hpn1 : ¬ p = w.heap.size + 1 := by omega
            have hpm0 : ¬ w.heap.size = p := by omega
            have hpm1 : ¬ w.heap.size + 1 = p := by omega
            go_region_held3 (fun w' => w'.cell? ⟨p, 0, none⟩ = some (.int .i64 N) ∧ w'.cell? ⟨p, 1, none⟩ = some (.int .u32 pr) ∧ w'.cell? ⟨p, 2, none⟩ = some (.int .i64 pw) ∧ w'.cell? ⟨p, 3, none⟩ = some (.slice a chain.length cap) ∧ w'.cell? ⟨p, 4, none⟩ = some (.int .u32 (sp : Int)) ∧ w'.cell? ⟨p, 5, none⟩ = some (.int .i64 wt) ∧ w'.cell? ⟨p, 6, none⟩ = some (.int .u32 er))
              (first | go_keep | exact ⟨c0, c1, c2, c3, c4, c5, c6⟩)
              (first
                | (go_simp; go_at_call 53; refine (HE.out _ _ (by first | exact (HRD.out.alloc (Nat.le_refl _) _) | exact ((HRD.out.alloc (Nat.le_refl _) _).alloc (by simp) _)) (by first | (simp; done) | (simp; omega)) (by first | exact z_reads 32 (by omega) _ | exact ((z_reads 32 (by omega) w).alloc (Nat.le_refl _) _).mono (by simp) | exact HZ3.out)).mono ?_; rintro e w1 ⟨⟨a1, b1, l1, l2, l3, rfl⟩, hb1⟩; obtain ⟨hc1, hf1⟩ := bcell hb1; have hbW : Below w.heap.size w w1 := (by first | exact (((Below.refl _ w).alloc (Nat.le_refl _) _).drew).trans (hb1.mono (by simp; done)) | exact ((((Below.refl _ w).alloc (Nat.le_refl _) _).alloc (by simp) _).drew).trans (hb1.mono (by simp; omega))); have hs1 := hbW.size))
            all_goals
              go_wp2
              go_meet
              case rel => exact ⟨rfl, by
                repeat (with_reducible first | apply below_drewN | apply Below.drew | refine Below.setCell ?_ (by first | (simp; done) | omega | (simp; omega)) _ | refine Below.alloc ?_ (by first | omega | (simp; done) | (simp; omega)) _ | assumption | exact Below.refl _ _)⟩
          · obtain rfl : N = (m : Int) := by omega
            clear hm
            have hq1 : ¬ 32 < (m : Int) := hn32
            have hq2 : 0 < m := by omega
            have hpl1 : p < w.heap.size + 1 := by omega
            have hpl2 : p < w.heap.size + 1 + 1 := by omega
            have HZ3 := Lib.hid (show ((w.alloc (.cells #[.int .i64 0, .bool false, .slice none 0 0] 28)).alloc (.cells (zrow64 m) 2)).reads ((w.alloc (.cells #[.int .i64 0, .bool false, .slice none 0 0] 28)).alloc (.cells (zrow64 m) 2)).heap.size (.slice (some ⟨w.heap.size + 1, 0, none⟩) m m) ((List.replicate m 0).map i64V) by have h := z_reads m (by omega) (w.alloc (.cells #[.int .i64 0, .bool false, .slice none 0 0] 28)); rw [World.size_alloc w] at h; exact h)
            have hpn0 : ¬ p = w.heap.size := by omega
            have hpn1 : ¬ p = w.heap.size + 1 := by omega
            have hpm0 : ¬ w.heap.size = p := by omega
            have hpm1 : ¬ w.heap.size + 1 = p := by omega
            go_region_held3 (fun w' => w'.cell? ⟨p, 0, none⟩ = some (.int .i64 (m : Int)) ∧ w'.cell? ⟨p, 1, none⟩ = some (.int .u32 pr) ∧ w'.cell? ⟨p, 2, none⟩ = some (.int .i64 pw) ∧ w'.cell? ⟨p, 3, none⟩ = some (.slice a chain.length cap) ∧ w'.cell? ⟨p, 4, none⟩ = some (.int .u32 (sp : Int)) ∧ w'.cell? ⟨p, 5, none⟩ = some (.int .i64 wt) ∧ w'.cell? ⟨p, 6, none⟩ = some (.int .u32 er))
              (first | go_keep | exact ⟨c0, c1, c2, c3, c4, c5, c6⟩)
              (first
                | (go_simp; go_at_call 53; refine (HE.out _ _ (by first | exact (HRD.out.alloc (Nat.le_refl _) _) | exact ((HRD.out.alloc (Nat.le_refl _) _).alloc (by simp) _)) (by first | (simp; done) | (simp; omega)) (by first | exact z_reads m (by omega) _ | exact ((z_reads m (by omega) w).alloc (Nat.le_refl _) _).mono (by simp) | exact HZ3.out)).mono ?_; rintro e w1 ⟨⟨a1, b1, l1, l2, l3, rfl⟩, hb1⟩; obtain ⟨hc1, hf1⟩ := bcell hb1; have hbW : Below w.heap.size w w1 := (by first | exact (((Below.refl _ w).alloc (Nat.le_refl _) _).drew).trans (hb1.mono (by simp; done)) | exact ((((Below.refl _ w).alloc (Nat.le_refl _) _).alloc (by simp) _).drew).trans (hb1.mono (by simp; omega))); have hs1 := hbW.size))
            all_goals
              go_wp2
              go_meet
              case rel => exact ⟨rfl, by
                repeat (with_reducible first | apply below_drewN | apply Below.drew | refine Below.setCell ?_ (by first | (simp; done) | omega | (simp; omega)) _ | refine Below.alloc ?_ (by first | omega | (simp; done) | (simp; omega)) _ | assumption | exact Below.refl _ _)⟩
      case rest =>
        obtain ⟨rfl, hB⟩ := hcut
        have hB2 := hB
        have hsB := hB.size
        obtain ⟨hcw, hfw⟩ := bcell hB
        clear hmk hm HE
        cases hv : validB N chain sp
        · obtain rfl : r = false := by rw [HR.out, madeB, hv]; simp
          have hq : ((errI false : Int) != 0) = true := by decide
          go_wp2
          go_ret2
          exact HPOST.out _ _ ⟨rfl, hB2⟩
        · have hq : ((errI true : Int) != 0) = false := by decide
          have hvv := Lib.hid hv
          clear hv
          obtain ⟨mm, hmm⟩ : ∃ mm, mm = chain.length := ⟨_, rfl⟩
          rw [← hmm] at c3 hcap
          have HH := Lib.hid hmm
          clear hmm
          go_wp2
          clear hq
          have HOK : Hid (∀ q ∈ chain, 0 < q) := by
            intro q hq
            obtain ⟨i, hi, rfl⟩ := List.getElem_of_mem hq
            have hv1 := hvv.out
            unfold validB at hv1
            simp only [Bool.and_eq_true] at hv1
            have := modB_lt (okTo_get hv1.2 i _ hi (List.getElem?_eq_getElem hi))
            omega
          go_loopw [39] (fun i wr => ∃ k : Nat, k ≤ mm ∧ i = .int .i64 (k : Int) ∧ Hid (coprTo chain k = true) ∧ Below w.heap.size w wr) (fun i _ => mm - (intOf i).toNat)
          case atStart => exact ⟨0, Nat.zero_le _, rfl, rfl, hB2⟩
          case round =>
            obtain ⟨k, hk, rfl, hok, hBr⟩ := hrel
            obtain ⟨hcr, hfr⟩ := bcell hBr
            have hsr := hBr.size
            clear hcw hfw hB2
            by_cases hlt : k < mm
            · obtain ⟨q, hq⟩ : ∃ x, chain[k]? = some x := ⟨chain[k]'(by rw [← HH.out]; exact hlt), List.getElem?_eq_getElem _⟩
              obtain ⟨b, off, rfl, hbl, hc⟩ := HS.out k q hq
              have hqb := hcb q (List.mem_of_getElem? hq)
              have HQ := Lib.hid hq
              clear hq
              have hkc : (k : Int) ≤ (cap : Int) := by omega
              have hk0 : (0 : Int) ≤ (k : Int) := by omega
              go_wp2
              obtain ⟨wo, rfl⟩ : ∃ wo : World, wo = wr := ⟨_, rfl⟩
              go_loopw [51] (fun i wr => ∃ j : Nat, j ≤ k ∧ i = .int .i64 (j : Int) ∧ Hid (coprRow chain q j = true) ∧ Below w.heap.size w wr) (fun i _ => k - (intOf i).toNat)
              case atStart => exact ⟨0, Nat.zero_le _, rfl, rfl, hBr⟩
              case round =>
                clear hcr hfr hBr
                obtain ⟨j, hj, rfl, hrow, hBr⟩ := hrel
                obtain ⟨hcr, hfr⟩ := bcell hBr
                have hsr := hBr.size
                by_cases hjl : j < k
                · obtain ⟨d, hd⟩ : ∃ x, chain[j]? = some x := ⟨chain[j]'(by rw [← HH.out]; omega), List.getElem?_eq_getElem _⟩
                  obtain ⟨b', off', he', hbl', hc'⟩ := HS.out j d hd
                  injection he' with he'
                  injection he' with e1 e2
                  subst e1 e2
                  have hdb := hcb d (List.mem_of_getElem? hd)
                  have hd0 := HOK.out d (List.mem_of_getElem? hd)
                  have HD := Lib.hid hd
                  clear hd
                  have HA := Lib.hid (fun W => apart_any q d hqb hdb hd0 W)
                  obtain ⟨g, hg⟩ : ∃ g, g = coprB q d := ⟨_, rfl⟩
                  rw [← hg] at HA
                  have HG := Lib.hid hg
                  clear hg
                  cases g
                  · obtain rfl : r = false := by
                      rw [HR.out, madeB]
                      have h1 : coprRow chain q k = false := by
                        have : coprRow chain q (j + 1) = false := by rw [coprRow_succ _ _ _ _ HD.out, ← HG.out]; simp
                        exact all_range_mono this (by omega)
                      have h2 : coprTo chain chain.length = false := by
                        have : coprTo chain (k + 1) = false := by rw [coprTo_succ _ _ _ HQ.out, h1]; simp
                        exact all_range_mono this (by rw [← HH.out]; omega)
                      rw [h2]; simp
                    go_wp2_with fail
                    refine (HA.out _).mono ?_
                    rintro e w3 ⟨rfl, hb3⟩
                    go_wp2
                    go_ret2
                    exact HPOST.out _ _ ⟨rfl, hBr.trans (hb3.mono hBr.size)⟩
                  · go_wp2_with fail
                    refine (HA.out _).mono ?_
                    rintro e w3 ⟨rfl, hb3⟩
                    go_wp2
                    go_roundw
                    case rel => exact ⟨j + 1, by omega, by go_num, by show _ = _; rw [coprRow_succ _ _ _ _ HD.out, hrow.out, ← HG.out]; rfl, hBr.trans (hb3.mono hBr.size)⟩
                    case measure => simp [intOf]; omega
                · obtain rfl : j = k := by omega
                  go_wp2
                  go_roundw
                  case rel => exact ⟨j + 1, by omega, by go_num, by show _ = _; rw [coprTo_succ _ _ _ HQ.out, hok.out, hrow.out]; rfl, hBr⟩
                  case measure => simp [intOf]; omega
            · obtain rfl : k = mm := by omega
              have hB3 := hBr
              obtain rfl : r = true := by
                rw [HR.out, madeB, hvv.out, ← HH.out, hok.out]
                simp [h1, h2]
              have hw1 : (31 : Int) + width - 1 = 30 + width := by omega
              have hne : (width == 0) = false := by rw [beq_eq_false_iff_ne]; omega
              go_wp2
              go_ret2
              refine HPOST.out _ _ ⟨?_, hB3.alloc hB3.size _⟩
              rw [if_pos trivial]
              exact ⟨wr.heap.size, rfl, hB3.size, by rw [alloc_last _ _ rfl, partsI, hw1]⟩
    · obtain rfl : r = false := by rw [HR.out, madeB]; simp [h2]
      have hd : decide (31 < width) = true := by simp; omega
      go_enter Try.func33, Try.ntmps33
      go_wp2
      go_ret2
      exact HPOST.out _ _ ⟨rfl, Below.refl _ _⟩
  · obtain rfl : r = false := by rw [HR.out, madeB]; simp [h1]
    have hd : decide (width < 2) = true := by simp; omega
    go_enter Try.func33, Try.ntmps33
    go_wp2
    go_ret2
    exact HPOST.out _ _ ⟨rfl, Below.refl _ _⟩
end Go.Proofs.Ytpcpgmgpkegjlaa
