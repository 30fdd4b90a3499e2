/- Walks: whether parameters are valid. -/
import Derived.Test.YtpcpgmgpkegjlaaGA2
namespace Go.Proofs.Ytpcpgmgpkegjlaa
open Go.RowKit
theorem par_cells {w : World} {p : Nat} {v0 v1 v2 v3 v4 v5 v6 : Value} {t : TypeId} {fz : Nat × Nat} (h : w.heap[p]? = some (.cells #[v0, v1, v2, v3, v4, v5, v6] t fz)) :
    w.cell? ⟨p, 0, none⟩ = some v0 ∧ w.cell? ⟨p, 1, none⟩ = some v1 ∧ w.cell? ⟨p, 2, none⟩ = some v2 ∧ w.cell? ⟨p, 3, none⟩ = some v3 ∧ w.cell? ⟨p, 4, none⟩ = some v4 ∧ w.cell? ⟨p, 5, none⟩ = some v5 ∧ w.cell? ⟨p, 6, none⟩ = some v6 := by
  refine ⟨?_, ?_, ?_, ?_, ?_, ?_, ?_⟩ <;> simp [World.cell?, h]
/-- The moduli up to a place, each one that may be and none of those before. -/
def okTo (chain : List Nat) (k : Nat) : Bool := (List.range k).all fun i => (chain[i]?).all fun q => modB q && !hasB (chain.take i) q
theorem okTo_succ (chain : List Nat) (k q : Nat) (h : chain[k]? = some q) : okTo chain (k + 1) = (okTo chain k && (modB q && !hasB (chain.take k) q)) := by
  unfold okTo; rw [List.range_succ, List.all_append]; simp [h]
theorem okTo_mono (chain : List Nat) (k m : Nat) (h : okTo chain k = false) (hkm : k ≤ m) : okTo chain m = false := by
  unfold okTo at *
  rw [List.all_eq_false] at *
  obtain ⟨x, hx, h⟩ := h
  exact ⟨x, by simp at *; omega, h⟩
def sizeB (N : Int) : Bool := N == 4 || N == 8 || N == 16 || N == 32
def spB (chain : List Nat) (sp : Nat) : Bool := sp == 0 || (modB sp && !hasB chain sp)
def validB (N : Int) (chain : List Nat) (sp : Nat) : Bool := sizeB N && (decide (1 ≤ chain.length) && decide (chain.length ≤ 24) && spB chain sp) && okTo chain chain.length
def badB (m : Nat) (chain : List Nat) (sp : Nat) : Bool := decide (m < 1) || decide (m > 24) || !(sp == 0 || (modB sp && !hasB chain sp))
theorem validB_of (N : Int) (chain : List Nat) (sp : Nat) (hN : N = 4 ∨ N = 8 ∨ N = 16 ∨ N = 32) (h1 : okTo chain chain.length = true) (h2 : false = badB chain.length chain sp) : validB N chain sp = true := by
  have h3 := h2.symm
  unfold badB at h3
  rw [Bool.or_eq_false_iff, Bool.or_eq_false_iff] at h3
  obtain ⟨⟨h4, h5⟩, h6⟩ := h3
  simp only [decide_eq_false_iff_not] at h4 h5
  simp only [Bool.not_eq_false'] at h6
  unfold validB spB sizeB
  rw [h1, h6]
  simp; exact ⟨by omega, by omega, by omega⟩
theorem validB_bad (N : Int) (chain : List Nat) (sp : Nat) (h2 : true = badB chain.length chain sp) : validB N chain sp = false := by
  have h3 := h2.symm
  unfold badB at h3
  rw [Bool.or_eq_true, Bool.or_eq_true] at h3
  unfold validB spB
  rcases h3 with (h3 | h3) | h3
  · have : decide (1 ≤ chain.length) = false := by simp at h3 ⊢; exact h3
    rw [this]; simp
  · have : decide (chain.length ≤ 24) = false := by simp at h3 ⊢; omega
    rw [this]; simp
  · simp only [Bool.not_eq_true'] at h3
    rw [h3]; simp
theorem validB_not (N : Int) (chain : List Nat) (sp k : Nat) (h : okTo chain k = false) (hk : k ≤ chain.length) : validB N chain sp = false := by
  unfold validB; rw [okTo_mono _ _ _ h hk]; simp
theorem validB_size (N : Int) (chain : List Nat) (sp : Nat) (hN : ¬ (N = 4 ∨ N = 8 ∨ N = 16 ∨ N = 32)) : validB N chain sp = false := by
  unfold validB sizeB
  have : (N == 4 || N == 8 || N == 16 || N == 32) = false := by simp; omega
  rw [this]; simp
set_option maxHeartbeats 4000000 in
theorem valid_any (N pr pw wt er : Int) (cv : Value) (chain : List Nat) (sp : Nat) (B p : Nat) (w : World) (hr : w.reads B cv (chain.map u32V))
    (hp : w.heap[p]? = some (.cells #[.int .i64 N, .int .u32 pr, .int .i64 pw, cv, .int .u32 (sp : Int), .int .i64 wt, .int .u32 er] 25)) :
    Calls Try.prog 47 #[.pointer (some ⟨p, 0, none⟩)] w fun e w' => e = .returned (.bool (validB N chain sp)) ∧ ∃ n, w' = w.drewN n := by
  obtain ⟨c0, c1, c2, c3, c4, c5, c6⟩ := par_cells hp
  clear hp c1 c2 c5 c6
  have HM := Lib.hid (fun W x => modulus_any x W)
  have hl := hr.le_map
  obtain ⟨a, cap, rfl, hcap, hmx, hsh⟩ := reads_u32 hr
  have hcon : ∀ (n x k : Nat), k ≤ chain.length → Calls Try.prog 57 #[.slice a (k : Nat) cap, .int .u32 (x : Int)] (w.drewN n) fun e w' => e = .returned (.bool (hasB (chain.take k) x)) ∧ w.drewN n = w' := fun n x k hk => 
    Contains_any x _ (chain.take k) B (w.drewN n) (by rw [List.map_take]; exact (hr.drewN n).take k hk)
  have hall : ∀ (n x : Nat), Calls Try.prog 57 #[.slice a chain.length cap, .int .u32 (x : Int)] (w.drewN n) fun e w' => e = .returned (.bool (hasB chain x)) ∧ w.drewN n = w' := fun n x => 
    Contains_any x _ chain B (w.drewN n) (hr.drewN n)
  have HC := Lib.hid hcon
  have HA := Lib.hid hall
  have HS := Lib.hid hsh
  clear hcon hall hsh hr
  obtain ⟨r, hr⟩ : ∃ r, r = validB N chain sp := ⟨_, rfl⟩
  rw [← hr]
  have HR := Lib.hid hr
  clear hr
  obtain ⟨m, hm⟩ : ∃ m, m = chain.length := ⟨_, rfl⟩
  rw [← hm] at HA c3 hl hcap
  have HH := Lib.hid hm
  clear hm
  by_cases hN : N = 4 ∨ N = 8 ∨ N = 16 ∨ N = 32
  · go_enter Try.func47, Try.ntmps47
    go_upto_block 0 with (fail)
    go_cut [] (fun wx => wx = w)
    case first =>
      rcases hN with rfl | rfl | rfl | rfl
      all_goals
        go_wp2
        go_meet
        case rel => rfl
    case rest =>
      subst hcut
      obtain ⟨w1, hw1⟩ : ∃ w1, w1 = wc := ⟨_, rfl⟩
      subst hw1
      obtain ⟨bad, hbad⟩ : ∃ bad : Bool, bad = badB m chain sp := ⟨_, rfl⟩
      have HB := Lib.hid hbad
      clear hbad
      go_upto_region 7 with (fail)
      go_cut [53] (fun s wx => s = .bool bad ∧ ∃ n, wx = w1.drewN n)
      case first =>
        by_cases h1 : 1 ≤ m
        · have hd1 : decide ((m : Int) < 1) = false := by simp; omega
          by_cases h2 : m ≤ 24
          · have hd2 : decide ((m : Int) > 24) = false := by simp; omega
            by_cases h3 : sp = 0
            · have hb : ((sp : Int) != 0) = false := by rw [h3]; rfl
              obtain rfl : bad = false := by rw [HB.out, badB]; simp [h2, h3]; omega
              clear h3
              go_quiet (fail)
              go_wp2
              go_meet
              case rel => exact ⟨rfl, _, rfl⟩
            · have hb : ((sp : Int) != 0) = true := by rw [bne_iff_ne]; omega
              by_cases h4 : modB sp = true
              · by_cases h5 : hasB chain sp = true
                · obtain rfl : bad = true := by rw [HB.out, badB, h4, h5]; simp [h3]
                  clear h3
                  go_quiet ((first | (go_at_call 56; exact quiet_left (HM.out _ _)) | (go_at_call 57; exact quiet_left (HA.out _ _))))
                  go_wp2
                  go_meet
                  case rel => exact ⟨rfl, _, rfl⟩
                · have h5 : hasB chain sp = false := by simpa using h5
                  obtain rfl : bad = false := by rw [HB.out, badB, h4, h5]; simp [h2]; omega
                  clear h3
                  go_quiet ((first | (go_at_call 56; exact quiet_left (HM.out _ _)) | (go_at_call 57; exact quiet_left (HA.out _ _))))
                  go_wp2
                  go_meet
                  case rel => exact ⟨rfl, _, rfl⟩
              · have h4 : modB sp = false := by simpa using h4
                obtain rfl : bad = true := by rw [HB.out, badB, h4]; simp [h3]
                clear h3
                go_quiet ((first | (go_at_call 56; exact quiet_left (HM.out _ _)) | (go_at_call 57; exact quiet_left (HA.out _ _))))
                go_wp2
                go_meet
                case rel => exact ⟨rfl, _, rfl⟩
          · have hd2 : decide ((m : Int) > 24) = true := by simp; omega
            obtain rfl : bad = true := by rw [HB.out, badB]; simp; omega
            go_quiet (fail)
            go_wp2
            go_meet
            case rel => exact ⟨rfl, _, rfl⟩
        · have hd1 : decide ((m : Int) < 1) = true := by simp; omega
          obtain rfl : bad = true := by rw [HB.out, badB]; simp; omega
          go_quiet (fail)
          go_wp2
          go_meet
          case rel => exact ⟨rfl, _, rfl⟩
      case rest =>
        obtain ⟨rfl, nq, rfl⟩ := hcut
        cases bad
        · go_wp2
          go_loop [59] (fun i => ∃ k : Nat, k ≤ m ∧ i = .int .i64 (k : Int) ∧ Hid (okTo chain k = true)) (fun i => m - (intOf i).toNat)
          case atStart => exact ⟨0, Nat.zero_le _, rfl, rfl⟩
          case round =>
            obtain ⟨k, hk, rfl, hok⟩ := hrel
            by_cases hlt : k < m
            · obtain ⟨q, hq⟩ : ∃ x, chain[k]? = some x := ⟨chain[k]'(by rw [← HH.out]; exact hlt), List.getElem?_eq_getElem _⟩
              obtain ⟨b, off, rfl, _, hc⟩ := HS.out k q hq
              have HQ := Lib.hid hq
              clear hq
              have hkl : k ≤ chain.length := by rw [← HH.out]; omega
              have HC1 := Lib.hid (HC.out nq q k hkl)
              clear hkl
              by_cases h4 : modB q = true
              · by_cases h5 : hasB (chain.take k) q = true
                · obtain rfl : r = false := by
                    rw [HR.out]; exact validB_not _ _ _ (k + 1) (by rw [okTo_succ _ _ _ HQ.out]; rw [h4, h5]; simp) (by rw [← HH.out]; omega)
                  go_wp2_with (first | (go_at_call 56; refine (HM.out _ _).mono ?_; rintro e w2 ⟨rfl, rfl⟩) | (go_at_call 57; refine HC1.out.mono ?_; rintro e w2 ⟨rfl, rfl⟩))
                  go_ret
                  exact ⟨rfl, nq, rfl⟩
                · have h5 : hasB (chain.take k) q = false := by simpa using h5
                  go_wp2_with (first | (go_at_call 56; refine (HM.out _ _).mono ?_; rintro e w2 ⟨rfl, rfl⟩) | (go_at_call 57; refine HC1.out.mono ?_; rintro e w2 ⟨rfl, rfl⟩))
                  go_round
                  case rel =>
                    refine ⟨k + 1, by omega, by go_num, ?_⟩
                    show _ = _
                    rw [okTo_succ _ _ _ HQ.out, hok.out]; rw [h4, h5]; rfl
                  case measure => simp [intOf]; omega
              · have h4 : modB q = false := by simpa using h4
                obtain rfl : r = false := by
                  rw [HR.out]; exact validB_not _ _ _ (k + 1) (by rw [okTo_succ _ _ _ HQ.out]; rw [h4]; simp) (by rw [← HH.out]; omega)
                go_wp2_with (first | (go_at_call 56; refine (HM.out _ _).mono ?_; rintro e w2 ⟨rfl, rfl⟩) | (go_at_call 57; refine HC1.out.mono ?_; rintro e w2 ⟨rfl, rfl⟩))
                go_ret
                exact ⟨rfl, nq, rfl⟩
            · obtain rfl : k = m := by omega
              obtain rfl : r = true := by
                rw [HR.out]
                refine validB_of _ _ _ hN ?_ ?_
                · have := hok.out
                  rwa [HH.out] at this
                · have := HB.out
                  rwa [HH.out] at this
              go_wp2
              go_ret
              exact ⟨rfl, nq, rfl⟩
        · obtain rfl : r = false := by
            rw [HR.out]
            refine validB_bad _ _ _ ?_
            have := HB.out
            rwa [HH.out] at this
          go_wp2
          go_ret
          exact ⟨rfl, nq, rfl⟩
  · obtain rfl : r = false := by
      rw [HR.out]; exact validB_size _ _ _ hN
    have b1 : (N == 4) = false := by rw [beq_eq_false_iff_ne]; omega
    have b2 : (N == 8) = false := by rw [beq_eq_false_iff_ne]; omega
    have b3 : (N == 16) = false := by rw [beq_eq_false_iff_ne]; omega
    have b4 : (N == 32) = false := by rw [beq_eq_false_iff_ne]; omega
    clear hN
    go_enter Try.func47, Try.ntmps47
    go_wp2
    go_ret
    exact ⟨rfl, 0, rfl⟩
end Go.Proofs.Ytpcpgmgpkegjlaa
