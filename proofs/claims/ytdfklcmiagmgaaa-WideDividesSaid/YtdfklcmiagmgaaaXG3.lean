/- The reference: the integer of a text. -/
import Derived.Test.YtdfklcmiagmgaaaXG2
namespace Go.Proofs.Ytdfklcmiagmgaaa
set_option linter.all false
open Go.RowKit Go.Shelf Go.WideNum
theorem dec_lenH (l : List UInt8) (h : ∀ c ∈ l, isDig c = true) (hl : l.length ≤ 617) : (hw (decV l)).length ≤ 130 := by
  refine hw_len_le ?_
  exact Nat.lt_trans (Nat.lt_of_lt_of_le (decV_lt l h) (Nat.pow_le_pow_right (by omega) hl)) (by decide +kernel)
theorem num_set0 {W : World} {g : Nat} {u0 u1 : Value} {T : TypeId} (h : W.heap[g]? = some (.cells #[u0, u1] T)) (x : Value) :
    (W.setCell ⟨g, 0, none⟩ x).heap[g]? = some (.cells #[x, u1] T) := by
  simp [World.setCell, Array.getElem?_modify, h]
theorem numH_set0 {W : World} {p n : Nat} {v : Value} {s : Bool} {a : Option Addr} {k c : Nat} {T : TypeId} (h : World.numH W v n) (hp : W.heap[p]? = some (.cells #[.bool s, .slice a k c] T)) (x : Value) :
    World.numH (W.setCell ⟨p, 0, none⟩ x) v n := by
  have h1 := reads_other h hp (noInt_num s a k c) (fun b hb => cell_other (o := 0) hb x)
  have e : (W.setCell ⟨p, 0, none⟩ x).heap.size = W.heap.size := by simp
  show World.reads _ _ _ _
  rw [e]; exact h1
set_option maxRecDepth 100000 in
set_option maxHeartbeats 8000000 in
theorem refRead_any (s : ByteArray) (hs : s.size ≤ maxLen) (w : World) :
    Calls Try.prog 13 #[.string s] w (ReadRet w (readZ s.data.toList)) := by
  have hs63 : s.size ≤ 9223372036854775807 := hs
  obtain ⟨neg, hneg⟩ : ∃ b, b = readNeg s.data.toList := ⟨_, rfl⟩
  obtain ⟨d, hd⟩ : ∃ d : ByteArray, d.data.toList = readDig s.data.toList := ⟨⟨(readDig s.data.toList).toArray⟩, rfl⟩
  obtain ⟨HPOST, hpost⟩ : ∃ X, X = ReadRet w (readZ s.data.toList) := ⟨_, rfl⟩
  rw [← hpost]
  have HP : Hid (HPOST = ReadRet w (digRes neg d.data.toList)) := by show _ = _; rw [hpost, readZ, ← hneg, hd]
  clear hpost
  have hds : d.size ≤ s.size := by
    have h1 : d.data.toList.length ≤ s.data.toList.length := by rw [hd]; unfold readDig; split <;> simp
    exact h1
  have hds63 : d.size ≤ 9223372036854775807 := by omega
  have HNEG := Lib.hid hneg
  have HD := Lib.hid hd
  clear hneg hd
  have hb1 := (Below.refl w.heap.size w).alloc (Nat.le_refl _) (.cells #[.bool false, .string ⟨#[]⟩] 23)
  have HB1 := Lib.hid hb1
  clear hb1
  have hcase : (0 < s.size ∧ (s[0]?.getD 0) = 45 ∧ neg = true ∧ s.extract 1 s.size = d) ∨ ((0 < s.size → (s[0]?.getD 0) ≠ 45) ∧ neg = false ∧ d = s) := by
    have hn := HNEG.out
    have hdd := HD.out
    unfold readDig at hdd
    rw [← hn] at hdd
    unfold readNeg at hn
    by_cases h0 : s.size = 0
    · right
      have hl : s.data.toList = [] := List.eq_nil_of_length_eq_zero h0
      rw [hl] at hn
      have hnf : neg = false := hn
      rw [hnf] at hdd
      exact ⟨fun h => by omega, hnf, ByteArray.ext (Array.toList_inj.1 hdd)⟩
    · have hp : 0 < s.size := by omega
      have hh : s.data.toList.head? = some s[0] := by
        rw [List.head?_eq_getElem?, List.getElem?_eq_getElem (show 0 < s.data.toList.length from hp)]; rfl
      have hg : s[0]?.getD 0 = s[0] := by simp [hp]
      rw [hh] at hn
      by_cases h45 : s[0] = 45
      · left
        have hnt : neg = true := by rw [hn, h45]; rfl
        rw [hnt] at hdd
        refine ⟨hp, by rw [hg, h45], hnt, ByteArray.ext (Array.toList_inj.1 ?_)⟩
        rw [hdd]
        rw [if_pos rfl]
        simp [ByteArray.data_extract]
        exact List.take_of_length_le (by simp)
      · right
        have hnf : neg = false := by rw [hn]; simp [h45]
        rw [hnf] at hdd
        exact ⟨fun _ => by rw [hg]; exact h45, hnf, ByteArray.ext (Array.toList_inj.1 hdd)⟩
  have hempty : ∀ x : ByteArray, x.size ≠ 0 → x.toList.isEmpty = false := by
    intro x hx
    rw [ByteArray.toList_eq]
    cases hl : x.data.toList with
    | nil =>
      exfalso
      apply hx
      show x.data.size = 0
      rw [← Array.length_toList, hl]; rfl
    | cons a l => rfl
  have HEM := Lib.hid hempty
  clear hempty
  have HCASE := Lib.hid hcase
  clear hcase
  obtain ⟨hbad, HBAD⟩ : ∃ b, Hid (b = headBad neg d.data.toList) := ⟨_, rfl⟩
  go_enter Try.func13, Try.ntmps13
  go_upto_region 2 with (fail)
  go_cut [5] (fun nv wx => nv = .bool neg ∧ wx = w.alloc (.cells #[.bool false, .string ⟨#[]⟩] 23))
  case first =>
    rcases HCASE.out with ⟨hs0, hs1, hn, -⟩ | ⟨hs1, hn, -⟩
    · have t1 : ((s[0].toNat : Int) == 45) = true := by
        have : s[0] = 45 := by simpa [hs0] using hs1
        rw [this]; rfl
      subst hn
      clear hs1
      go_wp2
      go_meet
      case rel => exact ⟨rfl, rfl⟩
    · by_cases hs0 : s.size = 0
      · have hse : s = ⟨#[]⟩ := by
          apply ByteArray.ext
          exact Array.eq_empty_of_size_eq_zero hs0
        subst hse
        subst hn
        clear hs1
        go_wp2
        go_meet
        case rel => exact ⟨rfl, rfl⟩
      · have hs2 : 0 < s.size := by omega
        have t1 : ((s[0].toNat : Int) == 45) = false := by
          have h := hs1 hs2
          have : s[0] ≠ 45 := by simpa [hs2] using h
          rw [beq_eq_false_iff_ne]
          intro h2
          exact this (UInt8.toNat_inj.1 (by show s[0].toNat = 45; omega))
        subst hn
        clear hs1
        go_wp2
        go_meet
        case rel => exact ⟨rfl, rfl⟩
  case rest =>
    obtain ⟨rfl, rfl⟩ := hcut
    go_upto_if 18 with (fail)
    go_cut [4] (fun dv wx => dv = .string d ∧ wx = w.alloc (.cells #[.bool false, .string ⟨#[]⟩] 23))
    case first =>
      rcases HCASE.out with ⟨hs0, -, hn, hdx⟩ | ⟨-, hn, hdx⟩
      · subst hn
        go_wp2
        go_meet
        case rel => exact ⟨rfl, rfl⟩
      · subst hn
        subst hdx
        go_wp2
        go_meet
        case rel => exact ⟨rfl, rfl⟩
    case rest =>
      obtain ⟨rfl, rfl⟩ := hcut
      go_upto_region 5 with (fail)
      go_cut [35] (fun bv wx => bv = .bool hbad ∧ wx = w.alloc (.cells #[.bool false, .string ⟨#[]⟩] 23))
      case first =>
        by_cases hd0 : d.size = 0
        · have hse : d = ⟨#[]⟩ := by
            apply ByteArray.ext
            exact Array.eq_empty_of_size_eq_zero hd0
          have hb : hbad = true := by rw [HBAD.out, hse]; rfl
          subst hse
          subst hb
          go_wp2
          go_meet
          case rel => exact ⟨rfl, rfl⟩
        · have hd1 : 0 < d.size := by omega
          have hem := HEM.out d hd0
          have hns : ¬ d = (⟨#[]⟩ : ByteArray) := fun h => hd0 (by rw [h]; rfl)
          have hhead : d.data.toList.head? = some d[0] := by
            rw [List.head?_eq_getElem?, List.getElem?_eq_getElem (show 0 < d.data.toList.length from hd1)]; rfl
          have hne : d.data.toList.isEmpty = false := by
            cases hl : d.data.toList with
            | nil => rw [hl] at hhead; cases hhead
            | cons a l => rfl
          have hlen : d.data.toList.length = d.size := rfl
          have hbv : hbad = (decide (d[0] = 48) && (neg || decide (1 < d.size))) := by
            rw [HBAD.out, headBad, hne, hhead, hlen, Bool.false_or]
            congr 1
          have HBV := Lib.hid hbv
          clear hbv hhead hne hlen
          by_cases h48 : d[0] = 48
          · have t1 : ((d[0].toNat : Int) == 48) = true := by rw [h48]; rfl
            cases hneg : neg with
            | true =>
              have hb : hbad = true := by rw [HBV.out, hneg, h48]; rfl
              subst hb
              subst hneg
              clear h48
              by_cases h1 : 1 < d.size
              · have h1' : (1 : Int) < (d.size : Int) := by omega
                go_wp2
                go_meet
                case rel => exact ⟨rfl, rfl⟩
              · have h1' : ¬ (1 : Int) < (d.size : Int) := by omega
                go_wp2
                go_meet
                case rel => exact ⟨rfl, rfl⟩
            | false =>
              by_cases h1 : 1 < d.size
              · have h1' : (1 : Int) < (d.size : Int) := by omega
                have hb : hbad = true := by rw [HBV.out, hneg, h48, decide_eq_true h1]; rfl
                subst hb
                subst hneg
                clear h48
                go_wp2
                go_meet
                case rel => exact ⟨rfl, rfl⟩
              · have h1' : ¬ (1 : Int) < (d.size : Int) := by omega
                have hb : hbad = false := by rw [HBV.out, hneg, h48, decide_eq_false h1]; rfl
                subst hb
                subst hneg
                clear h48
                go_wp2
                go_meet
                case rel => exact ⟨rfl, rfl⟩
          · have t1 : ((d[0].toNat : Int) == 48) = false := by
              rw [beq_eq_false_iff_ne]
              intro h2
              exact h48 (UInt8.toNat_inj.1 (by show d[0].toNat = 48; omega))
            have hb : hbad = false := by rw [HBV.out, decide_eq_false h48]; rfl
            subst hb
            clear h48
            go_wp2
            go_meet
            case rel => exact ⟨rfl, rfl⟩
      case rest =>
        obtain ⟨rfl, rfl⟩ := hcut
        cases hbad with
        | true =>
          go_wp2
          rw [HP.out]
          exact bodyPost_ret (v := .tuple #[emptyW, .int .i64 6]) (by simp [results, Try.results13, go_sem]; rfl) rfl ⟨by rw [digRes, ← HBAD.out]; rfl, HB1.out⟩
        | false =>
          go_wp2_with fail
          go_loop [6] (fun iv => ∃ k : Nat, k ≤ d.size ∧ iv = .int .i64 (k : Int) ∧ Hid ((d.data.toList.take k).all isDig = true)) (fun iv => d.size - (intOf iv).toNat)
          case atStart => exact ⟨0, Nat.zero_le _, rfl, rfl⟩
          case round =>
            obtain ⟨k, hk, rfl, hall⟩ := hrel
            by_cases hlt : k < d.size
            · have hgk : d.data.toList[k]? = some d[k] := by rw [List.getElem?_eq_getElem (show k < d.data.toList.length from hlt)]; rfl
              have hts := all_take_succ isDig d.data.toList k _ hgk
              have HTS := Lib.hid hts
              clear hts
              have hc256 := d[k].toNat_lt
              by_cases h1 : d[k].toNat < 48
              · have h1' : (d[k].toNat : Int) < 48 := by omega
                have hnd : d.data.toList.all isDig = false := by
                  rw [Bool.eq_false_iff]
                  intro h
                  have := List.all_eq_true.1 h d[k] (List.mem_of_getElem? hgk)
                  unfold isDig at this
                  have := of_decide_eq_true this
                  omega
                have HND := Lib.hid hnd
                clear hnd hgk h1
                go_wp2
                rw [HP.out]
                exact bodyPost_ret (v := .tuple #[emptyW, .int .i64 6]) (by simp [results, Try.results13, go_sem]; rfl) rfl ⟨by rw [digRes, ← HBAD.out, HND.out]; rfl, HB1.out⟩
              · by_cases h2 : 57 < d[k].toNat
                · have h1' : ¬ (d[k].toNat : Int) < 48 := by omega
                  have h2' : (57 : Int) < (d[k].toNat : Int) := by omega
                  have hnd : d.data.toList.all isDig = false := by
                    rw [Bool.eq_false_iff]
                    intro h
                    have := List.all_eq_true.1 h d[k] (List.mem_of_getElem? hgk)
                    unfold isDig at this
                    have := of_decide_eq_true this
                    omega
                  have HND := Lib.hid hnd
                  clear hnd hgk h1 h2
                  go_wp2
                  rw [HP.out]
                  exact bodyPost_ret (v := .tuple #[emptyW, .int .i64 6]) (by simp [results, Try.results13, go_sem]; rfl) rfl ⟨by rw [digRes, ← HBAD.out, HND.out]; rfl, HB1.out⟩
                · have h1' : ¬ (d[k].toNat : Int) < 48 := by omega
                  have h2' : ¬ (57 : Int) < (d[k].toNat : Int) := by omega
                  have hid : Hid (isDig d[k] = true) := by show _ = _; unfold isDig; exact decide_eq_true ⟨by omega, by omega⟩
                  clear hgk h1 h2
                  go_wp2
                  go_round
                  case rel => exact ⟨k + 1, by omega, by go_num, by show _ = _; rw [HTS.out, hall.out, hid.out]; rfl⟩
                  case measure => simp [intOf]; omega
            · obtain rfl : k = d.size := by omega
              have hall2 : d.data.toList.all isDig = true := by
                have := hall.out
                rwa [show d.data.toList.take d.size = d.data.toList from List.take_length] at this
              have HALL := Lib.hid hall2
              clear hall2 hall
              by_cases h617 : 617 < d.size
              · have h617' : (617 : Int) < (d.size : Int) := by omega
                go_wp2
                rw [HP.out]
                exact bodyPost_ret (v := .tuple #[emptyW, .int .i64 7]) (by simp [results, Try.results13, go_sem]; rfl) rfl ⟨by rw [digRes, ← HBAD.out, HALL.out, if_pos (show 617 < d.data.toList.length from h617)]; rfl, HB1.out⟩
              · have h617' : ¬ (617 : Int) < (d.size : Int) := by omega
                go_wp2_with fail
                have hnum : World.numH ((w.alloc (.cells #[.bool false, .string ⟨#[]⟩] 23)).alloc (.cells #[.bool false, .slice none 0 0] 63)) (.slice none 0 0) 0 := reads_nil _ _
                have hg1 : ((w.alloc (.cells #[.bool false, .string ⟨#[]⟩] 23)).alloc (.cells #[.bool false, .slice none 0 0] 63)).heap[w.heap.size + 1]? = some (.cells #[.bool false, .slice none 0 0] 63) := alloc_last _ _ (by simp)
                have hg0 : ((w.alloc (.cells #[.bool false, .string ⟨#[]⟩] 23)).alloc (.cells #[.bool false, .slice none 0 0] 63)).heap[w.heap.size]? = some (.cells #[.bool false, .string ⟨#[]⟩] 23) := by rw [Below.heap_alloc _ _ _ (by simp)]; exact heap_alloc_new w _
                have hb2 : Below w.heap.size w ((w.alloc (.cells #[.bool false, .string ⟨#[]⟩] 23)).alloc (.cells #[.bool false, .slice none 0 0] 63)) := ((Below.refl _ w).alloc (Nat.le_refl _) _).alloc (by simp) _
                have HNUM := Lib.hid hnum
                have HG1 := Lib.hid hg1
                have HG0 := Lib.hid hg0
                have HB2 := Lib.hid hb2
                clear hnum hg1 hg0 hb2
                go_loopw [8] (fun iv wr => ∃ (k : Nat) (a : Option Addr) (L c : Nat), k ≤ d.size ∧ iv = .int .i64 (k : Int) ∧ Hid (wr.heap[w.heap.size + 1]? = some (.cells #[.bool false, .slice a L c] 63)) ∧ Hid (wr.heap[w.heap.size]? = some (.cells #[.bool false, .string ⟨#[]⟩] 23)) ∧ Hid (World.numH wr (.slice a L c) (decV (d.data.toList.take k))) ∧ Hid (Below w.heap.size w wr)) (fun iv _ => d.size - (intOf iv).toNat)
                case atStart => exact ⟨0, none, 0, 0, Nat.zero_le _, rfl, HG1.out, HG0.out, HNUM.out, HB2.out⟩
                case round =>
                  obtain ⟨k, a, L, c, hk, rfl, hG1, hG0, hN, hB⟩ := hrel
                  obtain ⟨c10, c11, f10, f11⟩ := num_cells hG1.out
                  by_cases hlt : k < d.size
                  · have hgk : d.data.toList[k]? = some d[k] := by rw [List.getElem?_eq_getElem (show k < d.data.toList.length from hlt)]; rfl
                    have hdk := List.all_eq_true.1 HALL.out d[k] (List.mem_of_getElem? hgk)
                    unfold isDig at hdk
                    have hdk := of_decide_eq_true hdk
                    have hdl := dec_lenH (d.data.toList.take k) (fun x hx => List.all_eq_true.1 HALL.out x (List.mem_of_mem_take hx)) (by rw [List.length_take]; omega)
                    have hsn : decV (d.data.toList.take (k + 1)) = decV (d.data.toList.take k) * 10 + (d[k].toNat - 48) := by
                      rw [List.take_add_one, hgk]; exact decV_snoc _ _
                    obtain ⟨N, hNN⟩ : ∃ N, N = decV (d.data.toList.take k) := ⟨_, rfl⟩
                    rw [← hNN] at hN hdl hsn
                    obtain ⟨z, hz⟩ : ∃ z, z = d[k].toNat - 48 := ⟨_, rfl⟩
                    rw [← hz] at hsn
                    have hz10 : z < 10 := by omega
                    have h10l : (hw 10).length ≤ 1 := hw_len_le (by omega)
                    have hzl : (hw z).length ≤ 1 := hw_len_le (by omega)
                    have hml : (hw (N * 10)).length ≤ 130 + 1 := hw_len_mul hdl h10l
                    have hWT : Hid (∀ W, Calls Try.prog 56 #[.int .u32 10] W (SRet W false 10)) := fun W => word_any 10 (by omega) W
                    have hWZ : Hid (∀ W, Calls Try.prog 56 #[.int .u32 (z : Int)] W (SRet W false z)) := fun W => word_any z (by omega) W
                    have hMU : Hid (∀ W va vb, World.numH W va N → World.numH W vb 10 → Calls Try.prog 55 #[.agg #[.bool false, va], .agg #[.bool false, vb]] W (SRet W false (N * 10))) := fun W va vb h1 h2 => hmul_any false N va false 10 vb W h1 h2 (by omega) (by omega)
                    have hAD : Hid (∀ W va vb, World.numH W va (N * 10) → World.numH W vb z → Calls Try.prog 54 #[.agg #[.bool false, va], .agg #[.bool false, vb]] W (SRet W false (N * 10 + z))) := fun W va vb h1 h2 => by
                      have := hadd_any false (N * 10) va false z vb W h1 h2 (by omega) (by omega)
                      have e1 : sumS (N * 10) false z false = false := by unfold sumS; simp
                      have e2 : sumN (N * 10) false z false = N * 10 + z := by unfold sumN; simp
                      rwa [e1, e2, Bool.false_and] at this
                    have w1 : IntKind.u8.wrap ((d[k].toNat : Int) - 48) = (z : Int) := by rw [IntKind.wrap_u8]; omega
                    have w2 : IntKind.u32.wrap (z : Int) = (z : Int) := by rw [IntKind.wrap_u32]; omega
                    have w3 : (k : Int) < (d.size : Int) := by omega
                    have w4 : (0 : Int) ≤ (k : Int) := by omega
                    have HSN := Lib.hid hsn
                    have hz1 := lt_of_heap hG1.out
                    have hz0 := lt_of_heap hG0.out
                    clear hdk hgk hdl hsn hz hNN h10l hzl hml
                    go_wp2_with fail
                    refine wp_region_line (fun w' => w'.cell? ⟨w.heap.size + 1, 0, none⟩ = some (.bool false) ∧ w'.cell? ⟨w.heap.size + 1, 1, none⟩ = some (.slice a L c)) 10 (by kernel_rfl) ⟨c10, c11⟩ (fun hHeld => ?_)
                    refine wpAnyT_take 0 (v := ?_) (by kernel_rfl) rfl (by kernel_rfl) (by decide) rfl (by kernel_rfl) (by kernel_rfl) (fun _ _ _ h => h) (Or.inl ⟨by rfl, ?_⟩) (by assumption) ?_
                    rotate_left
                    · (intro wq hSq; (try dsimp only at hSq); go_simp; try with_reducible rfl)
                    try simp only [Act.put, List.setIfInBounds_toArray, List.set_cons_zero, List.set_cons_succ]
                    refine wpAnyT_take 3 (v := ?_) (by kernel_rfl) rfl (by kernel_rfl) (by decide) rfl (by kernel_rfl) (by kernel_rfl) (fun _ _ _ h => h) (Or.inl ⟨by rfl, ?_⟩) (by assumption) ?_
                    rotate_left
                    · (intro wq hSq; (try dsimp only at hSq); go_simp; try with_reducible rfl)
                    try simp only [Act.put, List.setIfInBounds_toArray, List.set_cons_zero, List.set_cons_succ]
                    refine wpAnyT_take 4 (v := ?_) (by kernel_rfl) rfl (by kernel_rfl) (by decide) rfl (by kernel_rfl) (by kernel_rfl) (fun _ _ _ h => h) (Or.inl ⟨by rfl, ?_⟩) (by assumption) ?_
                    rotate_left
                    · (intro wq hSq; (try dsimp only at hSq); go_simp; try with_reducible rfl)
                    try simp only [Act.put, List.setIfInBounds_toArray, List.set_cons_zero, List.set_cons_succ]
                    refine wpAnyT_take 5 (v := ?_) (by kernel_rfl) rfl (by kernel_rfl) (by decide) rfl (by kernel_rfl) (by kernel_rfl) (fun _ _ _ h => h) (Or.inl ⟨by rfl, ?_⟩) (by assumption) ?_
                    rotate_left
                    · (intro wq hSq; (try dsimp only at hSq); go_simp; try with_reducible rfl)
                    try simp only [Act.put, List.setIfInBounds_toArray, List.set_cons_zero, List.set_cons_succ]
                    refine wpAnyT_take 6 (v := ?_) (by kernel_rfl) rfl (by kernel_rfl) (by decide) rfl (by kernel_rfl) (by kernel_rfl) (fun _ _ _ h => h) (Or.inl ⟨by rfl, ?_⟩) (by assumption) ?_
                    rotate_left
                    · (intro wq hSq; (try dsimp only at hSq); go_simp; try with_reducible rfl)
                    try simp only [Act.put, List.setIfInBounds_toArray, List.set_cons_zero, List.set_cons_succ]
                    refine wpAnyT_take 7 (v := ?_) (by kernel_rfl) rfl (by kernel_rfl) (by decide) rfl (by kernel_rfl) (by kernel_rfl) (fun _ _ _ h => h) (Or.inl ⟨by rfl, ?_⟩) (by assumption) ?_
                    rotate_left
                    · (intro wq hSq; (try dsimp only at hSq); go_simp; try with_reducible rfl)
                    try simp only [Act.put, List.setIfInBounds_toArray, List.set_cons_zero, List.set_cons_succ]
                    have HXB := Lib.hid ((Below.refl wr.heap.size wr).drew)
                    have HXN := Lib.hid hN.out.drew
                    have k0 := c10
                    have k1 := c11
                    clear c10 c11 f10 f11
                    refine wpAnyT_step 1 (by kernel_rfl) rfl (fun K hK => ?_)
                    go_simp
                    go_at_call 56
                    (with_reducible refine (hWT.out _).mono ?_)
                    rintro e u0 ⟨vT, rfl, hnT, hbu⟩
                    obtain ⟨aT, LT, cT, rfl⟩ : ∃ a L c, vT = .slice a L c := by obtain ⟨x, y, h⟩ := reads_len hnT; exact ⟨x, _, y, h⟩
                    have hbx := HXB.out.trans (hbu.mono HXB.out.size)
                    have q0 := (hbu.cell (p := ⟨w.heap.size + 1, 0, none⟩) (Nat.lt_of_lt_of_le hz1 HXB.out.size)).trans k0
                    have q1 := (hbu.cell (p := ⟨w.heap.size + 1, 1, none⟩) (Nat.lt_of_lt_of_le hz1 HXB.out.size)).trans k1
                    have HD0 := Lib.hid hbx
                    have HF0N := Lib.hid (numH_below HXN.out hbu)
                    have HF0T := Lib.hid hnT
                    refine hK.out _ _ ⟨q0, q1⟩ (fun hHeld0 => ?_)
                    clear k0 k1
                    have k0 := q0
                    have k1 := q1
                    clear q0 q1 hbu hbx hnT hK K hHeld
                    try simp only [Act.put, List.setIfInBounds_toArray, List.set_cons_zero, List.set_cons_succ]
                    refine wpAnyT_step 2 (by kernel_rfl) rfl (fun K hK => ?_)
                    go_simp
                    go_at_call 55
                    (with_reducible refine (hMU.out _ _ _ HF0N.out HF0T.out).mono ?_)
                    rintro e u1 ⟨vP, rfl, hnP, hbu⟩
                    obtain ⟨aP, LP, cP, rfl⟩ : ∃ a L c, vP = .slice a L c := by obtain ⟨x, y, h⟩ := reads_len hnP; exact ⟨x, _, y, h⟩
                    have hbx := HD0.out.trans (hbu.mono HD0.out.size)
                    have q0 := (hbu.cell (p := ⟨w.heap.size + 1, 0, none⟩) (Nat.lt_of_lt_of_le hz1 HD0.out.size)).trans k0
                    have q1 := (hbu.cell (p := ⟨w.heap.size + 1, 1, none⟩) (Nat.lt_of_lt_of_le hz1 HD0.out.size)).trans k1
                    have HD1 := Lib.hid hbx
                    have HF1N := Lib.hid (numH_below HF0N.out hbu)
                    have HF1T := Lib.hid (numH_below HF0T.out hbu)
                    have HF1P := Lib.hid hnP
                    refine hK.out _ _ ⟨q0, q1⟩ (fun hHeld1 => ?_)
                    clear k0 k1
                    have k0 := q0
                    have k1 := q1
                    clear q0 q1 hbu hbx hnP hK K hHeld0
                    try simp only [Act.put, List.setIfInBounds_toArray, List.set_cons_zero, List.set_cons_succ]
                    refine wpAnyT_step 8 (by kernel_rfl) rfl (fun K hK => ?_)
                    go_simp
                    go_at_call 56
                    (with_reducible refine (hWZ.out _).mono ?_)
                    rintro e u2 ⟨vZ, rfl, hnZ, hbu⟩
                    obtain ⟨aZ, LZ, cZ, rfl⟩ : ∃ a L c, vZ = .slice a L c := by obtain ⟨x, y, h⟩ := reads_len hnZ; exact ⟨x, _, y, h⟩
                    have hbx := HD1.out.trans (hbu.mono HD1.out.size)
                    have q0 := (hbu.cell (p := ⟨w.heap.size + 1, 0, none⟩) (Nat.lt_of_lt_of_le hz1 HD1.out.size)).trans k0
                    have q1 := (hbu.cell (p := ⟨w.heap.size + 1, 1, none⟩) (Nat.lt_of_lt_of_le hz1 HD1.out.size)).trans k1
                    have HD2 := Lib.hid hbx
                    have HF2N := Lib.hid (numH_below HF1N.out hbu)
                    have HF2T := Lib.hid (numH_below HF1T.out hbu)
                    have HF2P := Lib.hid (numH_below HF1P.out hbu)
                    have HF2Z := Lib.hid hnZ
                    refine hK.out _ _ ⟨q0, q1⟩ (fun hHeld2 => ?_)
                    clear k0 k1
                    have k0 := q0
                    have k1 := q1
                    clear q0 q1 hbu hbx hnZ hK K hHeld1
                    try simp only [Act.put, List.setIfInBounds_toArray, List.set_cons_zero, List.set_cons_succ]
                    refine wpAnyT_step 9 (by kernel_rfl) rfl (fun K hK => ?_)
                    go_simp
                    go_at_call 54
                    (with_reducible refine (hAD.out _ _ _ HF2P.out HF2Z.out).mono ?_)
                    rintro e u3 ⟨vQ, rfl, hnQ, hbu⟩
                    obtain ⟨aQ, LQ, cQ, rfl⟩ : ∃ a L c, vQ = .slice a L c := by obtain ⟨x, y, h⟩ := reads_len hnQ; exact ⟨x, _, y, h⟩
                    have hbx := HD2.out.trans (hbu.mono HD2.out.size)
                    have q0 := (hbu.cell (p := ⟨w.heap.size + 1, 0, none⟩) (Nat.lt_of_lt_of_le hz1 HD2.out.size)).trans k0
                    have q1 := (hbu.cell (p := ⟨w.heap.size + 1, 1, none⟩) (Nat.lt_of_lt_of_le hz1 HD2.out.size)).trans k1
                    have HD3 := Lib.hid hbx
                    have HF3N := Lib.hid (numH_below HF2N.out hbu)
                    have HF3T := Lib.hid (numH_below HF2T.out hbu)
                    have HF3P := Lib.hid (numH_below HF2P.out hbu)
                    have HF3Z := Lib.hid (numH_below HF2Z.out hbu)
                    have HF3Q := Lib.hid hnQ
                    refine hK.out _ _ ⟨q0, q1⟩ (fun hHeld3 => ?_)
                    clear k0 k1
                    have k0 := q0
                    have k1 := q1
                    clear q0 q1 hbu hbx hnQ hK K hHeld2
                    try simp only [Act.put, List.setIfInBounds_toArray, List.set_cons_zero, List.set_cons_succ]
                    have hgr := (HD3.out.block _ hz1).trans hG1.out
                    obtain ⟨d0, d1, fz0, fz1⟩ := num_cells hgr
                    have HGR := Lib.hid hgr
                    clear k0 k1 hgr
                    refine wpAnyT_last (by kernel_rfl) (by kernel_rfl) rfl (fun K hK => ?_)
                    go_simp
                    refine hK.out _ _ ?_
                    clear hK K hHeld3 d0 d1 fz0 fz1
                    go_wp2
                    go_roundw
                    case rel =>
                      refine ⟨k + 1, aQ, LQ, cQ, by omega, by go_num, ?_, ?_, ?_, ?_⟩
                      · show _ = _; exact num_set HGR.out _ _
                      · show _ = _
                        exact (two_other _ _ _ (by omega)).trans ((HD3.out.block _ hz0).trans hG0.out)
                      · show World.numH _ _ _
                        rw [HSN.out]
                        exact numH_set HF3Q.out HGR.out _ _
                      · show Below _ _ _
                        exact ((hB.out.trans (HD3.out.mono hB.out.size)).setCell (by simp) _).setCell (by simp) _
                    case measure => simp [intOf]; omega
                  · obtain rfl : k = d.size := by omega
                    have htk : d.data.toList.take d.size = d.data.toList := List.take_length
                    rw [htk] at hN
                    have hdl := dec_lenH d.data.toList (fun x hx => List.all_eq_true.1 HALL.out x hx) (by show d.size ≤ 617; omega)
                    obtain ⟨N, hNN⟩ : ∃ N, N = decV d.data.toList := ⟨_, rfl⟩
                    rw [← hNN] at hN hdl
                    obtain ⟨fb, ft, hag⟩ := outZ_agg (zOf neg N)
                    obtain ⟨E, hE⟩ : ∃ E, E = errZ (zOf neg N) := ⟨_, rfl⟩
                    have HOUT : Hid (∀ v W, World.numH W v N → Calls Try.prog 57 #[.agg #[.bool neg, v]] W fun e w' => e = .returned (.tuple #[.agg #[.bool fb, .string ft], .int .i64 E]) ∧ Below W.heap.size W w') := fun v W h => hout_num neg N (by omega) fb ft E hag hE.symm v W h
                    have HRES : Hid (digRes neg d.data.toList = (.agg #[.bool fb, .string ft], E)) := by
                      show _ = _
                      rw [digRes, ← HBAD.out, HALL.out, if_neg (by decide), if_neg (show ¬ 617 < d.data.toList.length from h617), ← hNN, hag, hE]
                    clear htk hdl hNN hag hE
                    have m2 := num_set0 hG1.out (.bool neg)
                    have hn2 := numH_set0 hN.out hG1.out (.bool neg)
                    have hg2 := (cell_other (W := wr) (g := w.heap.size + 1) (b := w.heap.size) (o := 0) (by omega) (.bool neg)).trans hG0.out
                    have hb2 : Below w.heap.size w (wr.setCell ⟨w.heap.size + 1, 0, none⟩ (.bool neg)) := hB.out.setCell (by simp) _
                    obtain ⟨i0, i1, -, -⟩ := num_cells m2
                    have HN2 := Lib.hid hn2
                    have HG2 := Lib.hid hg2
                    have HBB := Lib.hid hb2
                    clear m2 hn2 hg2 hb2
                    go_wp2_with fail
                    generalize wr.setCell ⟨w.heap.size + 1, 0, none⟩ (.bool neg) = w2 at HN2 HG2 HBB i0 i1 ⊢
                    (with_reducible refine (HOUT.out _ _ HN2.out).mono ?_)
                    rintro e w3 ⟨rfl, hb3⟩
                    have hg3 := (hb3.block _ (lt_of_heap HG2.out)).trans HG2.out
                    clear i0 i1 c10 c11 f10 f11
                    obtain ⟨c0, c1, f0⟩ := wide_cells hg3
                    have HB3 := Lib.hid (HBB.out.trans (hb3.mono HBB.out.size))
                    have HG3 := Lib.hid hg3
                    clear hb3 hg3
                    go_wp2
                    have hg9 := wide_set HG3.out fb ft
                    clear c0 c1 f0
                    obtain ⟨d0, d1, -⟩ := wide_cells hg9
                    have hb9 : Below w.heap.size w ((w3.setCell ⟨w.heap.size, 0, none⟩ (.bool fb)).setCell ⟨w.heap.size, 1, none⟩ (.string ft)) := (HB3.out.setCell (by simp) _).setCell (by simp) _
                    clear hg9
                    generalize (w3.setCell ⟨w.heap.size, 0, none⟩ (.bool fb)).setCell ⟨w.heap.size, 1, none⟩ (.string ft) = W9 at d0 d1 hb9 ⊢
                    rw [HP.out]
                    exact bodyPost_ret (v := .tuple #[.agg #[.bool fb, .string ft], .int .i64 E]) (by simp [results, Try.results13, go_sem, d0, d1]) rfl ⟨by rw [HRES.out], hb9⟩
end Go.Proofs.Ytdfklcmiagmgaaa
