/- Walks: the integer of a text. -/
import Derived.Test.YtdfklcmiagmgaaaWM8
namespace Go.Proofs.Ytdfklcmiagmgaaa
set_option linter.all false
open Go.RowKit Go.Shelf Go.WideNum
theorem norm_one (z R : Nat) (hz : z < 4294967296) (hR : Hid (R = (trimL ((List.range 1).map (dig 4294967296 z))).length)) (W : World) (g : Nat) (hg : W.heap[g]? = some (.cells #[.int .u32 (z : Int)] 47)) :
    Calls Try.prog 52 #[.slice (some ⟨g, 0, none⟩) 1 1] W fun e w' => (e = .returned (.slice (some ⟨g, 0, none⟩) R 1) ∧ World.numR W (.slice (some ⟨g, 0, none⟩) R 1) z) ∧ W = w' := by
  rw [← row_one z hz] at hg
  refine (norm_rowF (dig 4294967296 z) 1 g R hR W _ hg (by omega)).mono ?_
  rintro e w' ⟨rfl, rfl⟩
  refine ⟨⟨rfl, ?_⟩, rfl⟩
  have h := owns_trim (base := 0) hg (Nat.zero_le _) (by simp)
  rw [range_wd z 1 (by omega)] at h hR
  rw [hR.out]
  simpa using h.reads
theorem below_via {a b c : World} (h : Below a.heap.size a b) (k : Below b.heap.size b c) : Below a.heap.size a c := h.trans (k.mono h.size)
theorem one_at (r : Nat) (hr : r < 4294967296) (h0 : r ≠ 0) (W : World) (g : Nat) (hg : W.heap[g]? = some (.cells #[.int .u32 (r : Int)] 47)) : World.numR W (.slice (some ⟨g, 0, none⟩) 1 1) r := by
  have h1 := wd_len1 r h0 hr
  have hw : wd r = [r] := by
    apply List.ext_getElem?
    intro i
    cases i with
    | zero => rw [wd_get r 0 (by omega), h1.2]; rfl
    | succ i => rw [List.getElem?_eq_none (by omega)]; rfl
  unfold World.numR
  rw [hw]
  have := reads_block (w := W) (l := [u32V r]) hg (lt_of_heap hg) 1 (by simp) (by unfold maxLen; omega)
  simpa [u32V] using this
theorem form_num (n : Nat) (neg : Bool) (v : Value) (w : World) (h : World.numR w v n) (hl : (wd n).length ≤ 2000) : Calls Try.prog 53 #[v, .bool neg] w (FormRet w neg n) := by
  have := form_any (wd n) (words_lt (by omega) n n) hl neg v w h
  rwa [valW_wd] at this
def ReadRet (w : World) (r : Value × Int) (e : Ending) (w' : World) : Prop := e = .returned (.tuple #[r.1, .int .i64 r.2]) ∧ Below w.heap.size w w'
set_option maxRecDepth 100000 in
set_option maxHeartbeats 8000000 in
theorem Read_any (s : ByteArray) (hs : s.size ≤ maxLen) (w : World) :
    Calls Try.prog 12 #[.string s] w (ReadRet w (readZ s.data.toList)) := by
  have hs63 : s.size ≤ 9223372036854775807 := hs
  obtain ⟨neg, hneg⟩ : ∃ b, b = readNeg s.data.toList := ⟨_, rfl⟩
  obtain ⟨d, hd⟩ : ∃ d : ByteArray, d.data.toList = readDig s.data.toList := ⟨⟨(readDig s.data.toList).toArray⟩, rfl⟩
  obtain ⟨HPOST, hpost⟩ : ∃ X, X = ReadRet w (readZ s.data.toList) := ⟨_, rfl⟩
  rw [← hpost]
  have HP : Hid (HPOST = ReadRet w (digRes neg d.data.toList)) := by show _ = _; rw [hpost, readZ, ← hneg, hd]
  clear hpost
  have hds : d.size ≤ s.size := by
    have h1 : d.data.toList.length ≤ s.data.toList.length := by rw [hd]; unfold readDig; split <;> simp
    exact h1
  have hds63 : d.size ≤ 9223372036854775807 := by omega
  have HNEG := Lib.hid hneg
  have HD := Lib.hid hd
  clear hneg hd
  have hb1 := (Below.refl w.heap.size w).alloc (Nat.le_refl _) (.cells #[.bool false, .string ⟨#[]⟩] 23)
  have HB1 := Lib.hid hb1
  clear hb1
  have hcase : (0 < s.size ∧ (s[0]?.getD 0) = 45 ∧ neg = true ∧ s.extract 1 s.size = d) ∨ ((0 < s.size → (s[0]?.getD 0) ≠ 45) ∧ neg = false ∧ d = s) := by
    have hn := HNEG.out
    have hdd := HD.out
    unfold readDig at hdd
    rw [← hn] at hdd
    unfold readNeg at hn
    by_cases h0 : s.size = 0
    · right
      have hl : s.data.toList = [] := List.eq_nil_of_length_eq_zero h0
      rw [hl] at hn
      have hnf : neg = false := hn
      rw [hnf] at hdd
      exact ⟨fun h => by omega, hnf, ByteArray.ext (Array.toList_inj.1 hdd)⟩
    · have hp : 0 < s.size := by omega
      have hh : s.data.toList.head? = some s[0] := by
        rw [List.head?_eq_getElem?, List.getElem?_eq_getElem (show 0 < s.data.toList.length from hp)]; rfl
      have hg : s[0]?.getD 0 = s[0] := by simp [hp]
      rw [hh] at hn
      by_cases h45 : s[0] = 45
      · left
        have hnt : neg = true := by rw [hn, h45]; rfl
        rw [hnt] at hdd
        refine ⟨hp, by rw [hg, h45], hnt, ByteArray.ext (Array.toList_inj.1 ?_)⟩
        rw [hdd]
        rw [if_pos rfl]
        simp [ByteArray.data_extract]
        exact List.take_of_length_le (by simp)
      · right
        have hnf : neg = false := by rw [hn]; simp [h45]
        rw [hnf] at hdd
        exact ⟨fun _ => by rw [hg]; exact h45, hnf, ByteArray.ext (Array.toList_inj.1 hdd)⟩
  have hempty : ∀ x : ByteArray, x.size ≠ 0 → x.toList.isEmpty = false := by
    intro x hx
    rw [ByteArray.toList_eq]
    cases hl : x.data.toList with
    | nil =>
      exfalso
      apply hx
      show x.data.size = 0
      rw [← Array.length_toList, hl]; rfl
    | cons a l => rfl
  have HEM := Lib.hid hempty
  clear hempty
  have HCASE := Lib.hid hcase
  clear hcase
  obtain ⟨hbad, HBAD⟩ : ∃ b, Hid (b = headBad neg d.data.toList) := ⟨_, rfl⟩
  go_enter Try.func12, Try.ntmps12
  go_upto_region 1 with (fail)
  go_cut [4] (fun nv wx => nv = .bool neg ∧ wx = w.alloc (.cells #[.bool false, .string ⟨#[]⟩] 23))
  case first =>
    rcases HCASE.out with ⟨hs0, hs1, hn, -⟩ | ⟨hs1, hn, -⟩
    · have t1 : ((s[0].toNat : Int) == 45) = true := by
        have : s[0] = 45 := by simpa [hs0] using hs1
        rw [this]; rfl
      subst hn
      clear hs1
      go_wp2
      go_meet
      case rel => exact ⟨rfl, rfl⟩
    · by_cases hs0 : s.size = 0
      · have hse : s = ⟨#[]⟩ := by
          apply ByteArray.ext
          exact Array.eq_empty_of_size_eq_zero hs0
        subst hse
        subst hn
        clear hs1
        go_wp2
        go_meet
        case rel => exact ⟨rfl, rfl⟩
      · have hs2 : 0 < s.size := by omega
        have t1 : ((s[0].toNat : Int) == 45) = false := by
          have h := hs1 hs2
          have : s[0] ≠ 45 := by simpa [hs2] using h
          rw [beq_eq_false_iff_ne]
          intro h2
          exact this (UInt8.toNat_inj.1 (by show s[0].toNat = 45; omega))
        subst hn
        clear hs1
        go_wp2
        go_meet
        case rel => exact ⟨rfl, rfl⟩
  case rest =>
    obtain ⟨rfl, rfl⟩ := hcut
    go_upto_if 18 with (fail)
    go_cut [5] (fun dv wx => dv = .string d ∧ wx = w.alloc (.cells #[.bool false, .string ⟨#[]⟩] 23))
    case first =>
      rcases HCASE.out with ⟨hs0, -, hn, hdx⟩ | ⟨-, hn, hdx⟩
      · subst hn
        go_wp2
        go_meet
        case rel => exact ⟨rfl, rfl⟩
      · subst hn
        subst hdx
        go_wp2
        go_meet
        case rel => exact ⟨rfl, rfl⟩
    case rest =>
      obtain ⟨rfl, rfl⟩ := hcut
      go_upto_region 5 with (fail)
      go_cut [35] (fun bv wx => bv = .bool hbad ∧ wx = w.alloc (.cells #[.bool false, .string ⟨#[]⟩] 23))
      case first =>
        by_cases hd0 : d.size = 0
        · have hse : d = ⟨#[]⟩ := by
            apply ByteArray.ext
            exact Array.eq_empty_of_size_eq_zero hd0
          have hb : hbad = true := by rw [HBAD.out, hse]; rfl
          subst hse
          subst hb
          go_wp2
          go_meet
          case rel => exact ⟨rfl, rfl⟩
        · have hd1 : 0 < d.size := by omega
          have hem := HEM.out d hd0
          have hns : ¬ d = (⟨#[]⟩ : ByteArray) := fun h => hd0 (by rw [h]; rfl)
          have hhead : d.data.toList.head? = some d[0] := by
            rw [List.head?_eq_getElem?, List.getElem?_eq_getElem (show 0 < d.data.toList.length from hd1)]; rfl
          have hne : d.data.toList.isEmpty = false := by
            cases hl : d.data.toList with
            | nil => rw [hl] at hhead; cases hhead
            | cons a l => rfl
          have hlen : d.data.toList.length = d.size := rfl
          have hbv : hbad = (decide (d[0] = 48) && (neg || decide (1 < d.size))) := by
            rw [HBAD.out, headBad, hne, hhead, hlen, Bool.false_or]
            congr 1
          have HBV := Lib.hid hbv
          clear hbv hhead hne hlen
          by_cases h48 : d[0] = 48
          · have t1 : ((d[0].toNat : Int) == 48) = true := by rw [h48]; rfl
            cases hneg : neg with
            | true =>
              have hb : hbad = true := by rw [HBV.out, hneg, h48]; rfl
              subst hb
              subst hneg
              clear h48
              go_wp2
              go_meet
              case rel => exact ⟨rfl, rfl⟩
            | false =>
              by_cases h1 : 1 < d.size
              · have h1' : (1 : Int) < (d.size : Int) := by omega
                have hb : hbad = true := by rw [HBV.out, hneg, h48, decide_eq_true h1]; rfl
                subst hb
                subst hneg
                clear h48
                go_wp2
                go_meet
                case rel => exact ⟨rfl, rfl⟩
              · have h1' : ¬ (1 : Int) < (d.size : Int) := by omega
                have hb : hbad = false := by rw [HBV.out, hneg, h48, decide_eq_false h1]; rfl
                subst hb
                subst hneg
                clear h48
                go_wp2
                go_meet
                case rel => exact ⟨rfl, rfl⟩
          · have t1 : ((d[0].toNat : Int) == 48) = false := by
              rw [beq_eq_false_iff_ne]
              intro h2
              exact h48 (UInt8.toNat_inj.1 (by show d[0].toNat = 48; omega))
            have hb : hbad = false := by rw [HBV.out, decide_eq_false h48]; rfl
            subst hb
            clear h48
            go_wp2
            go_meet
            case rel => exact ⟨rfl, rfl⟩
      case rest =>
        obtain ⟨rfl, rfl⟩ := hcut
        cases hbad with
        | true =>
          go_wp2
          rw [HP.out]
          exact bodyPost_ret (v := .tuple #[emptyW, .int .i64 6]) (by simp [results, Try.results12, go_sem]; rfl) rfl ⟨by rw [digRes, ← HBAD.out]; rfl, HB1.out⟩
        | false =>
          go_wp2_with fail
          go_loop [39] (fun iv => ∃ k : Nat, k ≤ d.size ∧ iv = .int .i64 (k : Int) ∧ Hid ((d.data.toList.take k).all isDig = true)) (fun iv => d.size - (intOf iv).toNat)
          case atStart => exact ⟨0, Nat.zero_le _, rfl, rfl⟩
          case round =>
            obtain ⟨k, hk, rfl, hall⟩ := hrel
            by_cases hlt : k < d.size
            · have hgk : d.data.toList[k]? = some d[k] := by rw [List.getElem?_eq_getElem (show k < d.data.toList.length from hlt)]; rfl
              have hts := all_take_succ isDig d.data.toList k _ hgk
              have HTS := Lib.hid hts
              clear hts
              have hc256 := d[k].toNat_lt
              by_cases h1 : d[k].toNat < 48
              · have h1' : (d[k].toNat : Int) < 48 := by omega
                have hnd : d.data.toList.all isDig = false := by
                  rw [Bool.eq_false_iff]
                  intro h
                  have := List.all_eq_true.1 h d[k] (List.mem_of_getElem? hgk)
                  unfold isDig at this
                  have := of_decide_eq_true this
                  omega
                have HND := Lib.hid hnd
                clear hnd hgk h1
                go_wp2
                rw [HP.out]
                exact bodyPost_ret (v := .tuple #[emptyW, .int .i64 6]) (by simp [results, Try.results12, go_sem]; rfl) rfl ⟨by rw [digRes, ← HBAD.out, HND.out]; rfl, HB1.out⟩
              · by_cases h2 : 57 < d[k].toNat
                · have h1' : ¬ (d[k].toNat : Int) < 48 := by omega
                  have h2' : (57 : Int) < (d[k].toNat : Int) := by omega
                  have hnd : d.data.toList.all isDig = false := by
                    rw [Bool.eq_false_iff]
                    intro h
                    have := List.all_eq_true.1 h d[k] (List.mem_of_getElem? hgk)
                    unfold isDig at this
                    have := of_decide_eq_true this
                    omega
                  have HND := Lib.hid hnd
                  clear hnd hgk h1 h2
                  go_wp2
                  rw [HP.out]
                  exact bodyPost_ret (v := .tuple #[emptyW, .int .i64 6]) (by simp [results, Try.results12, go_sem]; rfl) rfl ⟨by rw [digRes, ← HBAD.out, HND.out]; rfl, HB1.out⟩
                · have h1' : ¬ (d[k].toNat : Int) < 48 := by omega
                  have h2' : ¬ (57 : Int) < (d[k].toNat : Int) := by omega
                  have hid : Hid (isDig d[k] = true) := by show _ = _; unfold isDig; exact decide_eq_true ⟨by omega, by omega⟩
                  clear hgk h1 h2
                  go_wp2
                  go_round
                  case rel => exact ⟨k + 1, by omega, by go_num, by show _ = _; rw [HTS.out, hall.out, hid.out]; rfl⟩
                  case measure => simp [intOf]; omega
            · obtain rfl : k = d.size := by omega
              have hall2 : d.data.toList.all isDig = true := by
                have := hall.out
                rwa [show d.data.toList.take d.size = d.data.toList from List.take_length] at this
              have HALL := Lib.hid hall2
              clear hall2 hall
              by_cases h617 : 617 < d.size
              · have h617' : (617 : Int) < (d.size : Int) := by omega
                go_wp2
                rw [HP.out]
                exact bodyPost_ret (v := .tuple #[emptyW, .int .i64 7]) (by simp [results, Try.results12, go_sem]; rfl) rfl ⟨by rw [digRes, ← HBAD.out, HALL.out, if_pos (show 617 < d.data.toList.length from h617)]; rfl, HB1.out⟩
              · have h617' : ¬ (617 : Int) < (d.size : Int) := by omega
                go_wp2_with fail
                have hn0 : World.numR ((w.alloc (.cells #[.bool false, .string ⟨#[]⟩] 23)).alloc (.cells #[] 47)) (.slice (some ⟨w.heap.size + 1, 0, none⟩) 0 0) 0 :=
                  ⟨some ⟨w.heap.size + 1, 0, none⟩, 0, rfl, by simp, Nat.le_refl _, Nat.zero_le _, fun j u hj => by simp [wd, words, wordsOf] at hj⟩
                have HN0 := Lib.hid hn0
                have hb2 : Below (w.heap.size + 1) (w.alloc (.cells #[.bool false, .string ⟨#[]⟩] 23)) ((w.alloc (.cells #[.bool false, .string ⟨#[]⟩] 23)).alloc (.cells #[] 47)) := (Below.refl _ _).alloc (by simp) _
                have HB2 := Lib.hid hb2
                clear hn0 hb2
                go_loopw [7, 61] (fun sv iv wr => ∃ (k : Nat) (a : Option Addr) (c L : Nat), k ≤ d.size ∧ iv = .int .i64 (k : Int) ∧ sv = .slice a L c ∧ Hid (World.numR wr (.slice a L c) (decV (d.data.toList.take k))) ∧ Hid (Below (w.heap.size + 1) (w.alloc (.cells #[.bool false, .string ⟨#[]⟩] 23)) wr)) (fun _ iv _ => d.size - (intOf iv).toNat)
                case atStart => exact ⟨0, _, _, _, Nat.zero_le _, rfl, rfl, HN0.out, HB2.out⟩
                case round =>
                  obtain ⟨k, a, c, L, hk, rfl, rfl, hN, hB⟩ := hrel
                  by_cases hlt : k < d.size
                  · have hgk : d.data.toList[k]? = some d[k] := by rw [List.getElem?_eq_getElem (show k < d.data.toList.length from hlt)]; rfl
                    have hdk := List.all_eq_true.1 HALL.out d[k] (List.mem_of_getElem? hgk)
                    unfold isDig at hdk
                    have hdk := of_decide_eq_true hdk
                    have hdl := dec_len (d.data.toList.take k) (fun x hx => List.all_eq_true.1 HALL.out x (List.mem_of_mem_take hx)) (by rw [List.length_take]; omega)
                    have hsn : decV (d.data.toList.take (k + 1)) = decV (d.data.toList.take k) * 10 + (d[k].toNat - 48) := by
                      rw [List.take_add_one, hgk]; exact decV_snoc _ _
                    have hdl2 := dec_len (d.data.toList.take (k + 1)) (fun x hx => List.all_eq_true.1 HALL.out x (List.mem_of_mem_take hx)) (by rw [List.length_take]; omega)
                    obtain ⟨N, hNN⟩ : ∃ N, N = decV (d.data.toList.take k) := ⟨_, rfl⟩
                    rw [← hNN] at hN hdl hsn
                    rw [hsn] at hdl2
                    obtain ⟨z, hz⟩ : ∃ z, z = d[k].toNat - 48 := ⟨_, rfl⟩
                    rw [← hz] at hsn hdl2
                    have hz10 : z < 10 := by omega
                    have hzl : (wd z).length ≤ 1 := by
                      unfold wd; exact words_length (by omega) z 1 (by omega)
                    have h10l : (wd 10).length = 1 := (wd_len1 10 (by omega) (by omega)).1
                    have hnl : (wd (N * 10)).length ≤ 2000 := by
                      have h1 := words_length (B := 4294967296) (by omega) (N * 10) 66 (by
                        have h2 := Nat.lt_of_lt_of_le (wd_vlt N) (Nat.pow_le_pow_right (show 0 < 4294967296 by omega) hdl)
                        rw [show (66 : Nat) = 65 + 1 by rfl, Nat.pow_succ]
                        omega)
                      unfold wd; omega
                    have hhl : (wd N).length + (wd 10).length ≤ 134 := by omega
                    have hz2 : (wd z).length ≤ 2000 := by omega
                    have w1 : IntKind.u8.wrap ((d[k].toNat : Int) - 48) = (z : Int) := by rw [IntKind.wrap_u8]; omega
                    have w2 : IntKind.u32.wrap (z : Int) = (z : Int) := by rw [IntKind.wrap_u32]; omega
                    have w3 : (k : Int) < (d.size : Int) := by omega
                    have HSN := Lib.hid hsn
                    obtain ⟨R, HR⟩ : ∃ R, Hid (R = (trimL ((List.range 1).map (dig 4294967296 z))).length) := ⟨_, rfl⟩
                    have HNN := Lib.hid hNN
                    clear hdk hgk hdl hdl2 hsn hz hNN
                    go_wp2_with fail
                    go_region_held3 (fun w' => Below wr.heap.size wr w')
                      (repeat (with_reducible first | apply below_drewN | apply Below.drew | refine Below.alloc ?_ (by first | omega | (simp; done) | (simp; omega)) _ | assumption | exact Below.refl _ _))
                      (first
                        | (go_simp; go_at_call 51; refine (times_any N 10 _ _ _ (numR_below hN.out (by repeat (with_reducible first | apply below_drewN | apply Below.drew | refine Below.alloc ?_ (by first | omega | (simp; done) | (simp; omega)) _ | assumption | exact Below.refl _ _))) (one_at 10 (by omega) (by omega) _ _ (by first | exact heap_alloc_new _ _ | exact alloc_last _ _ (by simp) | exact (Below.heap_alloc _ _ _ (by simp)).trans (heap_alloc_new _ _) | exact (Below.heap_alloc _ _ _ (by simp)).trans (alloc_last _ _ (by simp)))) hhl).mono ?_; rintro e w5 ⟨v5, rfl, ho5, hb5⟩; have H5 : Hid (NumRet _ (N * 10) (.returned v5) w5) := ⟨v5, rfl, ho5, hb5⟩; have hs5 : Below wr.heap.size wr w5 := below_via (a := wr) (by repeat (with_reducible first | apply below_drewN | apply Below.drew | refine Below.alloc ?_ (by first | omega | (simp; done) | (simp; omega)) _ | assumption | exact Below.refl _ _)) hb5; have hs5z := hs5.size; have HB5 := Lib.hid hb5; clear ho5 hb5)
                        | (go_simp; go_at_call 52; refine (norm_one z R (by omega) HR _ _ (by first | exact heap_alloc_new _ _ | exact (HB5.out.block _ (by simp)).trans (heap_alloc_new _ _) | exact (HB5.out.block _ (by simp)).trans (alloc_last _ _ (by simp)) | exact (HB5.out.block _ (by simp; omega)).trans ((Below.heap_alloc _ _ _ (by simp)).trans (heap_alloc_new _ _)))).mono ?_; rintro e w6 ⟨⟨rfl, hz6⟩, rfl⟩; have HZ6 := Lib.hid hz6; clear hz6)
                          | (go_simp; go_at_call 50; refine (plus_any (N * 10) z _ _ _ (by first | exact H5.out.numR | exact numR_below H5.out.numR (by repeat (with_reducible first | apply below_drewN | apply Below.drew | refine Below.alloc ?_ (by first | omega | (simp; done) | (simp; omega)) _ | assumption | exact Below.refl _ _))) HZ6.out hnl hz2).mono ?_; rintro e w7 ⟨v7, rfl, ho7, hb7⟩; have H7 : Hid (NumRet _ (N * 10 + z) (.returned v7) w7) := ⟨v7, rfl, ho7, hb7⟩; have hs7 : Below wr.heap.size wr w7 := below_via (a := wr) (by repeat (with_reducible first | apply below_drewN | apply Below.drew | refine Below.alloc ?_ (by first | omega | (simp; done) | (simp; omega)) _ | assumption | exact Below.refl _ _)) hb7; have hs7z := hs7.size; clear ho7 hb7))
                    all_goals
                      obtain ⟨a7, c7, rfl⟩ := numR_shape H7.out.numR
                      go_wp2
                      go_roundw
                      case rel =>
                        refine ⟨k + 1, a7, c7, _, by omega, by go_num, rfl, ?_, ?_⟩
                        · show World.numR _ _ _
                          rw [HSN.out]; exact H7.out.numR
                        · have hsz := hB.out.size
                          simp at hsz
                          exact hB.out.trans (hs7.mono (by omega))
                      case measure => simp [intOf]; omega
                  · obtain rfl : k = d.size := by omega
                    have htk : d.data.toList.take d.size = d.data.toList := List.take_length
                    rw [htk] at hN
                    have hdl := dec_len d.data.toList (fun x hx => List.all_eq_true.1 HALL.out x hx) (by show d.size ≤ 617; omega)
                    have hdl2 : (wd (decV d.data.toList)).length ≤ 2000 := by omega
                    obtain ⟨N, hNN⟩ : ∃ N, N = decV d.data.toList := ⟨_, rfl⟩
                    rw [← hNN] at hN hdl2
                    have HNN := Lib.hid hNN
                    have hg1 : (w.alloc (.cells #[.bool false, .string ⟨#[]⟩] 23)).heap[w.heap.size]? = some (.cells #[.bool false, .string ⟨#[]⟩] 23) := heap_alloc_new w _
                    have hg2 := (hB.out.block w.heap.size (by omega)).trans hg1
                    have HG2 := Lib.hid hg2
                    have hbw : Below w.heap.size w wr := HB1.out.trans (hB.out.mono (by omega))
                    have HBW := Lib.hid hbw
                    have hswr := lt_of_heap hg2
                    have HDL2 := Lib.hid hdl2
                    obtain ⟨F1, hF1⟩ : ∃ x, x = outB neg N := ⟨_, rfl⟩
                    obtain ⟨F2, hF2⟩ : ∃ x, x = outE N := ⟨_, rfl⟩
                    have hform := form_num N neg _ wr hN.out hdl2
                    unfold FormRet at hform
                    rw [← hF1, ← hF2] at hform
                    have hwide : ∃ b t, F1 = .agg #[.bool b, .string t] := by
                      rw [hF1]; unfold outB emptyW wideV; split <;> exact ⟨_, _, rfl⟩
                    obtain ⟨fb, ft, rfl⟩ := hwide
                    have HF := Lib.hid hform
                    have HRES : Hid (digRes neg d.data.toList = (.agg #[.bool fb, .string ft], F2)) := by
                      show _ = _
                      rw [digRes, ← HBAD.out, HALL.out, if_neg (by decide), if_neg (show ¬ 617 < d.data.toList.length from h617), ← HNN.out, hF1, hF2, ← outB_z, ← outE_z]
                    clear htk hdl hNN hg1 hg2 hbw hdl2 hF1 hF2 hform
                    go_wp2_with fail
                    (with_reducible refine HF.out.mono ?_)
                    rintro e w3 ⟨rfl, hb3⟩
                    have hg3 := (hb3.block _ hswr).trans HG2.out
                    obtain ⟨c0, c1, f0⟩ := wide_cells hg3
                    have HB3 := Lib.hid (HBW.out.trans (hb3.mono HBW.out.size))
                    clear hb3
                    go_wp2
                    have hg9 := wide_set hg3 fb ft
                    obtain ⟨d0, d1, -⟩ := wide_cells hg9
                    have hb9 : Below w.heap.size w ((w3.setCell ⟨w.heap.size, 0, none⟩ (.bool fb)).setCell ⟨w.heap.size, 1, none⟩ (.string ft)) := (HB3.out.setCell (by simp) _).setCell (by simp) _
                    clear hg9
                    generalize (w3.setCell ⟨w.heap.size, 0, none⟩ (.bool fb)).setCell ⟨w.heap.size, 1, none⟩ (.string ft) = W9 at d0 d1 hb9 ⊢
                    rw [HP.out]
                    exact bodyPost_ret (v := .tuple #[.agg #[.bool fb, .string ft], .int .i64 F2]) (by simp [results, Try.results12, go_sem, d0, d1]) rfl ⟨by rw [HRES.out], hb9⟩
end Go.Proofs.Ytdfklcmiagmgaaa
