/- Wide integers: helpers and walks, in one text (WD1 WM8 WD2 HeldD WM9 WD3 WD4). -/
import Derived.Test.YtdfklcmiagmgaaaWQ1
import Derived.Test.YtdfklcmiagmgaaaHeld
/- Walks: the form of an integer. -/
namespace Go.Proofs.Ytdfklcmiagmgaaa
set_option linter.all false
open Go.RowKit Go.Shelf Go.WideNum
theorem two_new (x y : Nat) (w : World) : (w.alloc (.cells #[.int .u32 (x : Int), .int .u32 (y : Int)] 47)).reads (w.alloc (.cells #[.int .u32 (x : Int), .int .u32 (y : Int)] 47)).heap.size (.slice (some ⟨w.heap.size, 0, none⟩) 2 2) ([x, y].map u32V) := by
  have := reads_alloc_new w [u32V x, u32V y] 47 2 (by simp) (by unfold maxLen; omega)
  simpa [u32V] using this
theorem lim_big : 18446744073709551616 < lim := by
  unfold lim
  have h : (256 : Nat) ^ 9 ≤ 256 ^ 256 := Nat.pow_le_pow_right (by omega) (by omega)
  have h2 : (256 : Nat) ^ 9 = 4722366482869645213696 := by decide
  omega
theorem wide_set {W : World} {g : Nat} {u0 u1 : Value} (h : W.heap[g]? = some (.cells #[u0, u1] 23)) (neg : Bool) (s : ByteArray) :
    ((W.setCell ⟨g, 0, none⟩ (.bool neg)).setCell ⟨g, 1, none⟩ (.string s)).heap[g]? = some (.cells #[.bool neg, .string s] 23) := by
  simp [World.setCell, Array.getElem?_modify, h]
theorem wide_cells {W : World} {g : Nat} {neg : Bool} {s : ByteArray} (h : W.heap[g]? = some (.cells #[.bool neg, .string s] 23)) :
    W.cell? ⟨g, 0, none⟩ = some (.bool neg) ∧ W.cell? ⟨g, 1, none⟩ = some (.string s) ∧ ∀ o, W.frozen? ⟨g, o, none⟩ = false :=
  ⟨by rw [cell_of_row W _ _ _ _ (0, 0) h]; rfl, by rw [cell_of_row W _ _ _ _ (0, 0) h]; rfl, fun o => by simp [World.frozen?, h]⟩
set_option maxRecDepth 100000 in
set_option maxHeartbeats 4000000 in
theorem Of_any (n : Int) (h1 : -9223372036854775808 ≤ n) (h2 : n < 9223372036854775808) (w : World) :
    Calls Try.prog 20 #[.int .i64 n] w fun e w' => e = .returned (outZ n) ∧ Below w.heap.size w w' := by
  obtain ⟨m, hm⟩ : ∃ m, m = n.natAbs := ⟨_, rfl⟩
  obtain ⟨lo, hlo⟩ : ∃ lo, lo = m % 4294967296 := ⟨_, rfl⟩
  obtain ⟨hi, hhi⟩ : ∃ hi, hi = m / 4294967296 := ⟨_, rfl⟩
  have hv : valW 4294967296 [lo, hi] = m := by simp only [valW]; omega
  have hil : hi < 4294967296 := by omega
  have hlim : n.natAbs < lim := by have := lim_big; omega
  obtain ⟨nb, hnb⟩ : ∃ nb, nb = decide (n < 0) := ⟨_, rfl⟩
  have hz : zOf nb m = n := by
    rw [hnb, hm]; unfold zOf
    by_cases h : n < 0
    · rw [decide_eq_true h, if_pos rfl]; omega
    · rw [decide_eq_false h]; simp; omega
  have hform : ∀ (a : Option Addr) (W : World), W.reads W.heap.size (.slice a 2 2) ([lo, hi].map u32V) → Calls Try.prog 53 #[.slice a 2 2, .bool nb] W fun e w' => e = .returned (.tuple #[wideV nb (magB m), .int .i64 0]) ∧ Below W.heap.size W w' := by
    intro a W hr
    have := form_any [lo, hi] (by simp; omega) (by simp) nb (.slice a 2 2) W hr
    rw [hv] at this
    refine this.mono ?_
    rintro e w' ⟨rfl, hb⟩
    refine ⟨?_, hb⟩
    rw [outB_z nb, outE_z nb, hz, (outZ_in n hlim).1, (outZ_in n hlim).2, ← hnb, ← hm]
  have HF := Lib.hid hform
  have hout : outZ n = wideV nb (magB m) := by rw [(outZ_in n hlim).1, ← hnb, ← hm]
  rw [hout]
  obtain ⟨S, hS⟩ : ∃ S, S = magB m := ⟨_, rfl⟩
  rw [← hS] at HF ⊢
  unfold wideV at HF ⊢
  have t3 : (m : Int) % 4294967296 = (lo : Int) := by omega
  have t4 : (m : Int) / 4294967296 % 4294967296 = (hi : Int) := by omega
  by_cases hn : n < 0
  · obtain ⟨a, ha⟩ : ∃ a : Nat, (a : Int) = n + 18446744073709551616 := ⟨(n + 18446744073709551616).toNat, by omega⟩
    have t1 : IntKind.u64.wrap n = (a : Int) := by rw [IntKind.wrap_u64]; omega
    have t2 : IntKind.u64.wrap (-(a : Int)) = (m : Int) := by rw [IntKind.wrap_u64]; omega
    have hnb2 : nb = true := by rw [hnb]; exact decide_eq_true hn
    subst hnb2
    clear hnb ha hm hlo hhi hv hform hout hS hlim hz h1 h2
    go_enter Try.func20, Try.ntmps20
    go_wp2_with fail
    have hb0 : Below w.heap.size w ((w.alloc (.cells #[.bool false, .string ⟨#[]⟩] 23)).alloc (.cells #[.int .u32 (lo : Int), .int .u32 (hi : Int)] 47)) := ((Below.refl _ w).alloc (Nat.le_refl _) _).alloc (by simp) _
    have hg0 : ((w.alloc (.cells #[.bool false, .string ⟨#[]⟩] 23)).alloc (.cells #[.int .u32 (lo : Int), .int .u32 (hi : Int)] 47)).heap[w.heap.size]? = some (.cells #[.bool false, .string ⟨#[]⟩] 23) := by
      rw [Below.heap_alloc _ _ _ (by simp)]; exact heap_alloc_new w _
    have htw := two_new lo hi (w.alloc (.cells #[.bool false, .string ⟨#[]⟩] 23))
    have esz : (w.alloc (.cells #[.bool false, .string ⟨#[]⟩] 23)).heap.size = w.heap.size + 1 := World.size_alloc _ _
    simp only [esz] at htw
    clear esz
    generalize (w.alloc (.cells #[.bool false, .string ⟨#[]⟩] 23)).alloc (.cells #[.int .u32 (lo : Int), .int .u32 (hi : Int)] 47) = W1 at hb0 hg0 htw ⊢
    have hsz := hb0.size
    have hlt1 := lt_of_heap hg0
    (with_reducible refine (HF.out _ W1 htw).mono ?_)
    rintro e w3 ⟨rfl, hb3⟩
    have hg3 := (hb3.block _ hlt1).trans hg0
    have hsz3 := hb3.size
    have c0 : w3.cell? ⟨w.heap.size, 0, none⟩ = some (.bool false) := by rw [cell_of_row w3 _ _ _ _ (0, 0) hg3]; rfl
    have c1 : w3.cell? ⟨w.heap.size, 1, none⟩ = some (.string ⟨#[]⟩) := by rw [cell_of_row w3 _ _ _ _ (0, 0) hg3]; rfl
    have f0 : ∀ o, w3.frozen? ⟨w.heap.size, o, none⟩ = false := fun o => by simp [World.frozen?, hg3]
    have hsl : w.heap.size < w3.heap.size := by omega
    have hsn : ¬ w.heap.size = w3.heap.size := by omega
    have hsn2 : ¬ w3.heap.size = w.heap.size := by omega
    have HB := Lib.hid (hb0.trans (hb3.mono hsz))
    clear hg0 hb0 htw hb3 hlt1 hsz hsz3
    go_wp2
    have hg9 : (((w3.setCell ⟨w.heap.size, 0, none⟩ (.bool true)).setCell ⟨w.heap.size, 1, none⟩ (.string S)).alloc (.cells #[.bool true, .string S] 23)).heap[w.heap.size]? = some (.cells #[.bool true, .string S] 23) := by
      rw [Below.heap_alloc _ _ _ (by simp; omega)]; exact wide_set hg3 true S
    obtain ⟨d0, d1, -⟩ := wide_cells hg9
    have hb9 : Below w.heap.size w (((w3.setCell ⟨w.heap.size, 0, none⟩ (.bool true)).setCell ⟨w.heap.size, 1, none⟩ (.string S)).alloc (.cells #[.bool true, .string S] 23)) := ((HB.out.setCell (by simp) _).setCell (by simp) _).alloc (by simp; omega) _
    generalize ((w3.setCell ⟨w.heap.size, 0, none⟩ (.bool true)).setCell ⟨w.heap.size, 1, none⟩ (.string S)).alloc (.cells #[.bool true, .string S] 23) = W9 at d0 d1 hb9 ⊢
    exact bodyPost_ret (v := .agg #[.bool true, .string S]) (by simp [results, Try.results20, go_sem, d0, d1]) rfl ⟨rfl, hb9⟩
  · have t1 : IntKind.u64.wrap n = (m : Int) := by rw [IntKind.wrap_u64]; omega
    have t5 : (m : Int) / 4294967296 = (hi : Int) := by omega
    have t1b : n % 18446744073709551616 = (m : Int) := by omega
    have hnb2 : nb = false := by rw [hnb]; exact decide_eq_false hn
    subst hnb2
    have hnm : n = (m : Int) := by omega
    subst hnm
    clear hnb hm hlo hhi hv hform hout hS hlim hz h1 h2
    go_enter Try.func20, Try.ntmps20
    go_wp2_with fail
    have hb0 : Below w.heap.size w ((w.alloc (.cells #[.bool false, .string ⟨#[]⟩] 23)).alloc (.cells #[.int .u32 (lo : Int), .int .u32 (hi : Int)] 47)) := ((Below.refl _ w).alloc (Nat.le_refl _) _).alloc (by simp) _
    have hg0 : ((w.alloc (.cells #[.bool false, .string ⟨#[]⟩] 23)).alloc (.cells #[.int .u32 (lo : Int), .int .u32 (hi : Int)] 47)).heap[w.heap.size]? = some (.cells #[.bool false, .string ⟨#[]⟩] 23) := by
      rw [Below.heap_alloc _ _ _ (by simp)]; exact heap_alloc_new w _
    have htw := two_new lo hi (w.alloc (.cells #[.bool false, .string ⟨#[]⟩] 23))
    have esz : (w.alloc (.cells #[.bool false, .string ⟨#[]⟩] 23)).heap.size = w.heap.size + 1 := World.size_alloc _ _
    simp only [esz] at htw
    clear esz
    generalize (w.alloc (.cells #[.bool false, .string ⟨#[]⟩] 23)).alloc (.cells #[.int .u32 (lo : Int), .int .u32 (hi : Int)] 47) = W1 at hb0 hg0 htw ⊢
    have hsz := hb0.size
    have hlt1 := lt_of_heap hg0
    (with_reducible refine (HF.out _ W1 htw).mono ?_)
    rintro e w3 ⟨rfl, hb3⟩
    have hg3 := (hb3.block _ hlt1).trans hg0
    have hsz3 := hb3.size
    have c0 : w3.cell? ⟨w.heap.size, 0, none⟩ = some (.bool false) := by rw [cell_of_row w3 _ _ _ _ (0, 0) hg3]; rfl
    have c1 : w3.cell? ⟨w.heap.size, 1, none⟩ = some (.string ⟨#[]⟩) := by rw [cell_of_row w3 _ _ _ _ (0, 0) hg3]; rfl
    have f0 : ∀ o, w3.frozen? ⟨w.heap.size, o, none⟩ = false := fun o => by simp [World.frozen?, hg3]
    have hsl : w.heap.size < w3.heap.size := by omega
    have hsn : ¬ w.heap.size = w3.heap.size := by omega
    have hsn2 : ¬ w3.heap.size = w.heap.size := by omega
    have HB := Lib.hid (hb0.trans (hb3.mono hsz))
    clear hg0 hb0 htw hb3 hlt1 hsz hsz3
    go_wp2
    have hg9 : (((w3.setCell ⟨w.heap.size, 0, none⟩ (.bool false)).setCell ⟨w.heap.size, 1, none⟩ (.string S)).alloc (.cells #[.bool false, .string S] 23)).heap[w.heap.size]? = some (.cells #[.bool false, .string S] 23) := by
      rw [Below.heap_alloc _ _ _ (by simp; omega)]; exact wide_set hg3 false S
    obtain ⟨d0, d1, -⟩ := wide_cells hg9
    have hb9 : Below w.heap.size w (((w3.setCell ⟨w.heap.size, 0, none⟩ (.bool false)).setCell ⟨w.heap.size, 1, none⟩ (.string S)).alloc (.cells #[.bool false, .string S] 23)) := ((HB.out.setCell (by simp) _).setCell (by simp) _).alloc (by simp; omega) _
    generalize ((w3.setCell ⟨w.heap.size, 0, none⟩ (.bool false)).setCell ⟨w.heap.size, 1, none⟩ (.string S)).alloc (.cells #[.bool false, .string S] 23) = W9 at d0 d1 hb9 ⊢
    exact bodyPost_ret (v := .agg #[.bool false, .string S]) (by simp [results, Try.results20, go_sem, d0, d1]) rfl ⟨rfl, hb9⟩
end Go.Proofs.Ytdfklcmiagmgaaa

/- Plain: decimal texts. -/
namespace Go.Proofs.Ytdfklcmiagmgaaa
set_option linter.all false
open Go.WideNum
def isDig (c : UInt8) : Bool := decide (48 ≤ c.toNat ∧ c.toNat ≤ 57)
def decV (l : List UInt8) : Nat := l.foldl (fun a c => a * 10 + (c.toNat - 48)) 0
theorem decV_snoc (l : List UInt8) (c : UInt8) : decV (l ++ [c]) = decV l * 10 + (c.toNat - 48) := by unfold decV; rw [List.foldl_append]; rfl
theorem decV_lt (l : List UInt8) (h : ∀ c ∈ l, isDig c = true) : decV l < 10 ^ l.length := by
  have : ∀ r : List UInt8, (∀ c ∈ r, isDig c = true) → decV r.reverse < 10 ^ r.length := by
    intro r
    induction r with
    | nil => intro _; simp [decV]
    | cons c r ih =>
      intro h
      have h1 := ih (fun x hx => h x (by simp [hx]))
      have h2 := h c (by simp)
      unfold isDig at h2
      have h3 := of_decide_eq_true h2
      rw [List.reverse_cons, decV_snoc, List.length_cons, Nat.pow_succ]
      omega
  have := this l.reverse (fun c hc => h c (List.mem_reverse.1 hc))
  rwa [List.reverse_reverse, List.length_reverse] at this
def readNeg (l : List UInt8) : Bool := l.head? == some 45
def readDig (l : List UInt8) : List UInt8 := if readNeg l then l.tail else l
def headBad (neg : Bool) (d : List UInt8) : Bool := d.isEmpty || (d.head? == some 48 && (neg || decide (1 < d.length)))
def digRes (neg : Bool) (d : List UInt8) : Value × Int :=
  if headBad neg d || !d.all isDig then (emptyW, 6) else if 617 < d.length then (emptyW, 7) else (outZ (zOf neg (decV d)), errZ (zOf neg (decV d)))
/-- What Read answers. -/
def readZ (l : List UInt8) : Value × Int := digRes (readNeg l) (readDig l)
theorem ten617 : (10 : Nat) ^ 617 < 4294967296 ^ 65 := by decide +kernel
theorem dec_len (l : List UInt8) (h : ∀ c ∈ l, isDig c = true) (hl : l.length ≤ 617) : (wd (decV l)).length ≤ 65 := by
  unfold wd
  refine words_length (by omega) _ 65 ?_
  exact Nat.lt_trans (Nat.lt_of_lt_of_le (decV_lt l h) (Nat.pow_le_pow_right (by omega) hl)) ten617
end Go.Proofs.Ytdfklcmiagmgaaa

/- Walks: the integer of a text. -/
namespace Go.Proofs.Ytdfklcmiagmgaaa
set_option linter.all false
open Go.RowKit Go.Shelf Go.WideNum
theorem norm_one (z R : Nat) (hz : z < 4294967296) (hR : Hid (R = (trimL ((List.range 1).map (dig 4294967296 z))).length)) (W : World) (g : Nat) (hg : W.heap[g]? = some (.cells #[.int .u32 (z : Int)] 47)) :
    Calls Try.prog 52 #[.slice (some ⟨g, 0, none⟩) 1 1] W fun e w' => (e = .returned (.slice (some ⟨g, 0, none⟩) R 1) ∧ World.numR W (.slice (some ⟨g, 0, none⟩) R 1) z) ∧ W = w' := by
  rw [← row_one z hz] at hg
  refine (norm_rowF (dig 4294967296 z) 1 g R hR W _ hg (by omega)).mono ?_
  rintro e w' ⟨rfl, rfl⟩
  refine ⟨⟨rfl, ?_⟩, rfl⟩
  have h := owns_trim (base := 0) hg (Nat.zero_le _) (by simp)
  rw [range_wd z 1 (by omega)] at h hR
  rw [hR.out]
  simpa using h.reads
theorem below_via {a b c : World} (h : Below a.heap.size a b) (k : Below b.heap.size b c) : Below a.heap.size a c := h.trans (k.mono h.size)
theorem one_at (r : Nat) (hr : r < 4294967296) (h0 : r ≠ 0) (W : World) (g : Nat) (hg : W.heap[g]? = some (.cells #[.int .u32 (r : Int)] 47)) : World.numR W (.slice (some ⟨g, 0, none⟩) 1 1) r := by
  have h1 := wd_len1 r h0 hr
  have hw : wd r = [r] := by
    apply List.ext_getElem?
    intro i
    cases i with
    | zero => rw [wd_get r 0 (by omega), h1.2]; rfl
    | succ i => rw [List.getElem?_eq_none (by omega)]; rfl
  unfold World.numR
  rw [hw]
  have := reads_block (w := W) (l := [u32V r]) hg (lt_of_heap hg) 1 (by simp) (by unfold maxLen; omega)
  simpa [u32V] using this
theorem form_num (n : Nat) (neg : Bool) (v : Value) (w : World) (h : World.numR w v n) (hl : (wd n).length ≤ 2000) : Calls Try.prog 53 #[v, .bool neg] w (FormRet w neg n) := by
  have := form_any (wd n) (words_lt (by omega) n n) hl neg v w h
  rwa [valW_wd] at this
def ReadRet (w : World) (r : Value × Int) (e : Ending) (w' : World) : Prop := e = .returned (.tuple #[r.1, .int .i64 r.2]) ∧ Below w.heap.size w w'
set_option maxRecDepth 100000 in
set_option maxHeartbeats 8000000 in
theorem Read_any (s : ByteArray) (hs : s.size ≤ maxLen) (w : World) :
    Calls Try.prog 12 #[.string s] w (ReadRet w (readZ s.data.toList)) := by
  have hs63 : s.size ≤ 9223372036854775807 := hs
  obtain ⟨neg, hneg⟩ : ∃ b, b = readNeg s.data.toList := ⟨_, rfl⟩
  obtain ⟨d, hd⟩ : ∃ d : ByteArray, d.data.toList = readDig s.data.toList := ⟨⟨(readDig s.data.toList).toArray⟩, rfl⟩
  obtain ⟨HPOST, hpost⟩ : ∃ X, X = ReadRet w (readZ s.data.toList) := ⟨_, rfl⟩
  rw [← hpost]
  have HP : Hid (HPOST = ReadRet w (digRes neg d.data.toList)) := by show _ = _; rw [hpost, readZ, ← hneg, hd]
  clear hpost
  have hds : d.size ≤ s.size := by
    have h1 : d.data.toList.length ≤ s.data.toList.length := by rw [hd]; unfold readDig; split <;> simp
    exact h1
  have hds63 : d.size ≤ 9223372036854775807 := by omega
  have HNEG := Lib.hid hneg
  have HD := Lib.hid hd
  clear hneg hd
  have hb1 := (Below.refl w.heap.size w).alloc (Nat.le_refl _) (.cells #[.bool false, .string ⟨#[]⟩] 23)
  have HB1 := Lib.hid hb1
  clear hb1
  have hcase : (0 < s.size ∧ (s[0]?.getD 0) = 45 ∧ neg = true ∧ s.extract 1 s.size = d) ∨ ((0 < s.size → (s[0]?.getD 0) ≠ 45) ∧ neg = false ∧ d = s) := by
    have hn := HNEG.out
    have hdd := HD.out
    unfold readDig at hdd
    rw [← hn] at hdd
    unfold readNeg at hn
    by_cases h0 : s.size = 0
    · right
      have hl : s.data.toList = [] := List.eq_nil_of_length_eq_zero h0
      rw [hl] at hn
      have hnf : neg = false := hn
      rw [hnf] at hdd
      exact ⟨fun h => by omega, hnf, ByteArray.ext (Array.toList_inj.1 hdd)⟩
    · have hp : 0 < s.size := by omega
      have hh : s.data.toList.head? = some s[0] := by
        rw [List.head?_eq_getElem?, List.getElem?_eq_getElem (show 0 < s.data.toList.length from hp)]; rfl
      have hg : s[0]?.getD 0 = s[0] := by simp [hp]
      rw [hh] at hn
      by_cases h45 : s[0] = 45
      · left
        have hnt : neg = true := by rw [hn, h45]; rfl
        rw [hnt] at hdd
        refine ⟨hp, by rw [hg, h45], hnt, ByteArray.ext (Array.toList_inj.1 ?_)⟩
        rw [hdd]
        rw [if_pos rfl]
        simp [ByteArray.data_extract]
        exact List.take_of_length_le (by simp)
      · right
        have hnf : neg = false := by rw [hn]; simp [h45]
        rw [hnf] at hdd
        exact ⟨fun _ => by rw [hg]; exact h45, hnf, ByteArray.ext (Array.toList_inj.1 hdd)⟩
  have hempty : ∀ x : ByteArray, x.size ≠ 0 → x.toList.isEmpty = false := by
    intro x hx
    rw [ByteArray.toList_eq]
    cases hl : x.data.toList with
    | nil =>
      exfalso
      apply hx
      show x.data.size = 0
      rw [← Array.length_toList, hl]; rfl
    | cons a l => rfl
  have HEM := Lib.hid hempty
  clear hempty
  have HCASE := Lib.hid hcase
  clear hcase
  obtain ⟨hbad, HBAD⟩ : ∃ b, Hid (b = headBad neg d.data.toList) := ⟨_, rfl⟩
  go_enter Try.func12, Try.ntmps12
  go_upto_region 1 with (fail)
  go_cut [4] (fun nv wx => nv = .bool neg ∧ wx = w.alloc (.cells #[.bool false, .string ⟨#[]⟩] 23))
  case first =>
    rcases HCASE.out with ⟨hs0, hs1, hn, -⟩ | ⟨hs1, hn, -⟩
    · have t1 : ((s[0].toNat : Int) == 45) = true := by
        have : s[0] = 45 := by simpa [hs0] using hs1
        rw [this]; rfl
      subst hn
      clear hs1
      go_wp2
      go_meet
      case rel => exact ⟨rfl, rfl⟩
    · by_cases hs0 : s.size = 0
      · have hse : s = ⟨#[]⟩ := by
          apply ByteArray.ext
          exact Array.eq_empty_of_size_eq_zero hs0
        subst hse
        subst hn
        clear hs1
        go_wp2
        go_meet
        case rel => exact ⟨rfl, rfl⟩
      · have hs2 : 0 < s.size := by omega
        have t1 : ((s[0].toNat : Int) == 45) = false := by
          have h := hs1 hs2
          have : s[0] ≠ 45 := by simpa [hs2] using h
          rw [beq_eq_false_iff_ne]
          intro h2
          exact this (UInt8.toNat_inj.1 (by show s[0].toNat = 45; omega))
        subst hn
        clear hs1
        go_wp2
        go_meet
        case rel => exact ⟨rfl, rfl⟩
  case rest =>
    obtain ⟨rfl, rfl⟩ := hcut
    go_upto_if 18 with (fail)
    go_cut [5] (fun dv wx => dv = .string d ∧ wx = w.alloc (.cells #[.bool false, .string ⟨#[]⟩] 23))
    case first =>
      rcases HCASE.out with ⟨hs0, -, hn, hdx⟩ | ⟨-, hn, hdx⟩
      · subst hn
        go_wp2
        go_meet
        case rel => exact ⟨rfl, rfl⟩
      · subst hn
        subst hdx
        go_wp2
        go_meet
        case rel => exact ⟨rfl, rfl⟩
    case rest =>
      obtain ⟨rfl, rfl⟩ := hcut
      go_upto_region 5 with (fail)
      go_cut [35] (fun bv wx => bv = .bool hbad ∧ wx = w.alloc (.cells #[.bool false, .string ⟨#[]⟩] 23))
      case first =>
        by_cases hd0 : d.size = 0
        · have hse : d = ⟨#[]⟩ := by
            apply ByteArray.ext
            exact Array.eq_empty_of_size_eq_zero hd0
          have hb : hbad = true := by rw [HBAD.out, hse]; rfl
          subst hse
          subst hb
          go_wp2
          go_meet
          case rel => exact ⟨rfl, rfl⟩
        · have hd1 : 0 < d.size := by omega
          have hem := HEM.out d hd0
          have hns : ¬ d = (⟨#[]⟩ : ByteArray) := fun h => hd0 (by rw [h]; rfl)
          have hhead : d.data.toList.head? = some d[0] := by
            rw [List.head?_eq_getElem?, List.getElem?_eq_getElem (show 0 < d.data.toList.length from hd1)]; rfl
          have hne : d.data.toList.isEmpty = false := by
            cases hl : d.data.toList with
            | nil => rw [hl] at hhead; cases hhead
            | cons a l => rfl
          have hlen : d.data.toList.length = d.size := rfl
          have hbv : hbad = (decide (d[0] = 48) && (neg || decide (1 < d.size))) := by
            rw [HBAD.out, headBad, hne, hhead, hlen, Bool.false_or]
            congr 1
          have HBV := Lib.hid hbv
          clear hbv hhead hne hlen
          by_cases h48 : d[0] = 48
          · have t1 : ((d[0].toNat : Int) == 48) = true := by rw [h48]; rfl
            cases hneg : neg with
            | true =>
              have hb : hbad = true := by rw [HBV.out, hneg, h48]; rfl
              subst hb
              subst hneg
              clear h48
              go_wp2
              go_meet
              case rel => exact ⟨rfl, rfl⟩
            | false =>
              by_cases h1 : 1 < d.size
              · have h1' : (1 : Int) < (d.size : Int) := by omega
                have hb : hbad = true := by rw [HBV.out, hneg, h48, decide_eq_true h1]; rfl
                subst hb
                subst hneg
                clear h48
                go_wp2
                go_meet
                case rel => exact ⟨rfl, rfl⟩
              · have h1' : ¬ (1 : Int) < (d.size : Int) := by omega
                have hb : hbad = false := by rw [HBV.out, hneg, h48, decide_eq_false h1]; rfl
                subst hb
                subst hneg
                clear h48
                go_wp2
                go_meet
                case rel => exact ⟨rfl, rfl⟩
          · have t1 : ((d[0].toNat : Int) == 48) = false := by
              rw [beq_eq_false_iff_ne]
              intro h2
              exact h48 (UInt8.toNat_inj.1 (by show d[0].toNat = 48; omega))
            have hb : hbad = false := by rw [HBV.out, decide_eq_false h48]; rfl
            subst hb
            clear h48
            go_wp2
            go_meet
            case rel => exact ⟨rfl, rfl⟩
      case rest =>
        obtain ⟨rfl, rfl⟩ := hcut
        cases hbad with
        | true =>
          go_wp2
          rw [HP.out]
          exact bodyPost_ret (v := .tuple #[emptyW, .int .i64 6]) (by simp [results, Try.results12, go_sem]; rfl) rfl ⟨by rw [digRes, ← HBAD.out]; rfl, HB1.out⟩
        | false =>
          go_wp2_with fail
          go_loop [39] (fun iv => ∃ k : Nat, k ≤ d.size ∧ iv = .int .i64 (k : Int) ∧ Hid ((d.data.toList.take k).all isDig = true)) (fun iv => d.size - (intOf iv).toNat)
          case atStart => exact ⟨0, Nat.zero_le _, rfl, rfl⟩
          case round =>
            obtain ⟨k, hk, rfl, hall⟩ := hrel
            by_cases hlt : k < d.size
            · have hgk : d.data.toList[k]? = some d[k] := by rw [List.getElem?_eq_getElem (show k < d.data.toList.length from hlt)]; rfl
              have hts := all_take_succ isDig d.data.toList k _ hgk
              have HTS := Lib.hid hts
              clear hts
              have hc256 := d[k].toNat_lt
              by_cases h1 : d[k].toNat < 48
              · have h1' : (d[k].toNat : Int) < 48 := by omega
                have hnd : d.data.toList.all isDig = false := by
                  rw [Bool.eq_false_iff]
                  intro h
                  have := List.all_eq_true.1 h d[k] (List.mem_of_getElem? hgk)
                  unfold isDig at this
                  have := of_decide_eq_true this
                  omega
                have HND := Lib.hid hnd
                clear hnd hgk h1
                go_wp2
                rw [HP.out]
                exact bodyPost_ret (v := .tuple #[emptyW, .int .i64 6]) (by simp [results, Try.results12, go_sem]; rfl) rfl ⟨by rw [digRes, ← HBAD.out, HND.out]; rfl, HB1.out⟩
              · by_cases h2 : 57 < d[k].toNat
                · have h1' : ¬ (d[k].toNat : Int) < 48 := by omega
                  have h2' : (57 : Int) < (d[k].toNat : Int) := by omega
                  have hnd : d.data.toList.all isDig = false := by
                    rw [Bool.eq_false_iff]
                    intro h
                    have := List.all_eq_true.1 h d[k] (List.mem_of_getElem? hgk)
                    unfold isDig at this
                    have := of_decide_eq_true this
                    omega
                  have HND := Lib.hid hnd
                  clear hnd hgk h1 h2
                  go_wp2
                  rw [HP.out]
                  exact bodyPost_ret (v := .tuple #[emptyW, .int .i64 6]) (by simp [results, Try.results12, go_sem]; rfl) rfl ⟨by rw [digRes, ← HBAD.out, HND.out]; rfl, HB1.out⟩
                · have h1' : ¬ (d[k].toNat : Int) < 48 := by omega
                  have h2' : ¬ (57 : Int) < (d[k].toNat : Int) := by omega
                  have hid : Hid (isDig d[k] = true) := by show _ = _; unfold isDig; exact decide_eq_true ⟨by omega, by omega⟩
                  clear hgk h1 h2
                  go_wp2
                  go_round
                  case rel => exact ⟨k + 1, by omega, by go_num, by show _ = _; rw [HTS.out, hall.out, hid.out]; rfl⟩
                  case measure => simp [intOf]; omega
            · obtain rfl : k = d.size := by omega
              have hall2 : d.data.toList.all isDig = true := by
                have := hall.out
                rwa [show d.data.toList.take d.size = d.data.toList from List.take_length] at this
              have HALL := Lib.hid hall2
              clear hall2 hall
              by_cases h617 : 617 < d.size
              · have h617' : (617 : Int) < (d.size : Int) := by omega
                go_wp2
                rw [HP.out]
                exact bodyPost_ret (v := .tuple #[emptyW, .int .i64 7]) (by simp [results, Try.results12, go_sem]; rfl) rfl ⟨by rw [digRes, ← HBAD.out, HALL.out, if_pos (show 617 < d.data.toList.length from h617)]; rfl, HB1.out⟩
              · have h617' : ¬ (617 : Int) < (d.size : Int) := by omega
                go_wp2_with fail
                have hn0 : World.numR ((w.alloc (.cells #[.bool false, .string ⟨#[]⟩] 23)).alloc (.cells #[] 47)) (.slice (some ⟨w.heap.size + 1, 0, none⟩) 0 0) 0 :=
                  ⟨some ⟨w.heap.size + 1, 0, none⟩, 0, rfl, by simp, Nat.le_refl _, Nat.zero_le _, fun j u hj => by simp [wd, words, wordsOf] at hj⟩
                have HN0 := Lib.hid hn0
                have hb2 : Below (w.heap.size + 1) (w.alloc (.cells #[.bool false, .string ⟨#[]⟩] 23)) ((w.alloc (.cells #[.bool false, .string ⟨#[]⟩] 23)).alloc (.cells #[] 47)) := (Below.refl _ _).alloc (by simp) _
                have HB2 := Lib.hid hb2
                clear hn0 hb2
                go_loopw [7, 61] (fun sv iv wr => ∃ (k : Nat) (a : Option Addr) (c L : Nat), k ≤ d.size ∧ iv = .int .i64 (k : Int) ∧ sv = .slice a L c ∧ Hid (World.numR wr (.slice a L c) (decV (d.data.toList.take k))) ∧ Hid (Below (w.heap.size + 1) (w.alloc (.cells #[.bool false, .string ⟨#[]⟩] 23)) wr)) (fun _ iv _ => d.size - (intOf iv).toNat)
                case atStart => exact ⟨0, _, _, _, Nat.zero_le _, rfl, rfl, HN0.out, HB2.out⟩
                case round =>
                  obtain ⟨k, a, c, L, hk, rfl, rfl, hN, hB⟩ := hrel
                  by_cases hlt : k < d.size
                  · have hgk : d.data.toList[k]? = some d[k] := by rw [List.getElem?_eq_getElem (show k < d.data.toList.length from hlt)]; rfl
                    have hdk := List.all_eq_true.1 HALL.out d[k] (List.mem_of_getElem? hgk)
                    unfold isDig at hdk
                    have hdk := of_decide_eq_true hdk
                    have hdl := dec_len (d.data.toList.take k) (fun x hx => List.all_eq_true.1 HALL.out x (List.mem_of_mem_take hx)) (by rw [List.length_take]; omega)
                    have hsn : decV (d.data.toList.take (k + 1)) = decV (d.data.toList.take k) * 10 + (d[k].toNat - 48) := by
                      rw [List.take_add_one, hgk]; exact decV_snoc _ _
                    have hdl2 := dec_len (d.data.toList.take (k + 1)) (fun x hx => List.all_eq_true.1 HALL.out x (List.mem_of_mem_take hx)) (by rw [List.length_take]; omega)
                    obtain ⟨N, hNN⟩ : ∃ N, N = decV (d.data.toList.take k) := ⟨_, rfl⟩
                    rw [← hNN] at hN hdl hsn
                    rw [hsn] at hdl2
                    obtain ⟨z, hz⟩ : ∃ z, z = d[k].toNat - 48 := ⟨_, rfl⟩
                    rw [← hz] at hsn hdl2
                    have hz10 : z < 10 := by omega
                    have hzl : (wd z).length ≤ 1 := by
                      unfold wd; exact words_length (by omega) z 1 (by omega)
                    have h10l : (wd 10).length = 1 := (wd_len1 10 (by omega) (by omega)).1
                    have hnl : (wd (N * 10)).length ≤ 2000 := by
                      have h1 := words_length (B := 4294967296) (by omega) (N * 10) 66 (by
                        have h2 := Nat.lt_of_lt_of_le (wd_vlt N) (Nat.pow_le_pow_right (show 0 < 4294967296 by omega) hdl)
                        rw [show (66 : Nat) = 65 + 1 by rfl, Nat.pow_succ]
                        omega)
                      unfold wd; omega
                    have hhl : (wd N).length + (wd 10).length ≤ 134 := by omega
                    have hz2 : (wd z).length ≤ 2000 := by omega
                    have w1 : IntKind.u8.wrap ((d[k].toNat : Int) - 48) = (z : Int) := by rw [IntKind.wrap_u8]; omega
                    have w2 : IntKind.u32.wrap (z : Int) = (z : Int) := by rw [IntKind.wrap_u32]; omega
                    have w3 : (k : Int) < (d.size : Int) := by omega
                    have HSN := Lib.hid hsn
                    obtain ⟨R, HR⟩ : ∃ R, Hid (R = (trimL ((List.range 1).map (dig 4294967296 z))).length) := ⟨_, rfl⟩
                    have HNN := Lib.hid hNN
                    clear hdk hgk hdl hdl2 hsn hz hNN
                    go_wp2_with fail
                    go_region_held3 (fun w' => Below wr.heap.size wr w')
                      (repeat (with_reducible first | apply below_drewN | apply Below.drew | refine Below.alloc ?_ (by first | omega | (simp; done) | (simp; omega)) _ | assumption | exact Below.refl _ _))
                      (first
                        | (go_simp; go_at_call 51; refine (times_any N 10 _ _ _ (numR_below hN.out (by repeat (with_reducible first | apply below_drewN | apply Below.drew | refine Below.alloc ?_ (by first | omega | (simp; done) | (simp; omega)) _ | assumption | exact Below.refl _ _))) (one_at 10 (by omega) (by omega) _ _ (by first | exact heap_alloc_new _ _ | exact alloc_last _ _ (by simp) | exact (Below.heap_alloc _ _ _ (by simp)).trans (heap_alloc_new _ _) | exact (Below.heap_alloc _ _ _ (by simp)).trans (alloc_last _ _ (by simp)))) hhl).mono ?_; rintro e w5 ⟨v5, rfl, ho5, hb5⟩; have H5 : Hid (NumRet _ (N * 10) (.returned v5) w5) := ⟨v5, rfl, ho5, hb5⟩; have hs5 : Below wr.heap.size wr w5 := below_via (a := wr) (by repeat (with_reducible first | apply below_drewN | apply Below.drew | refine Below.alloc ?_ (by first | omega | (simp; done) | (simp; omega)) _ | assumption | exact Below.refl _ _)) hb5; have hs5z := hs5.size; have HB5 := Lib.hid hb5; clear ho5 hb5)
                        | (go_simp; go_at_call 52; refine (norm_one z R (by omega) HR _ _ (by first | exact heap_alloc_new _ _ | exact (HB5.out.block _ (by simp)).trans (heap_alloc_new _ _) | exact (HB5.out.block _ (by simp)).trans (alloc_last _ _ (by simp)) | exact (HB5.out.block _ (by simp; omega)).trans ((Below.heap_alloc _ _ _ (by simp)).trans (heap_alloc_new _ _)))).mono ?_; rintro e w6 ⟨⟨rfl, hz6⟩, rfl⟩; have HZ6 := Lib.hid hz6; clear hz6)
                          | (go_simp; go_at_call 50; refine (plus_any (N * 10) z _ _ _ (by first | exact H5.out.numR | exact numR_below H5.out.numR (by repeat (with_reducible first | apply below_drewN | apply Below.drew | refine Below.alloc ?_ (by first | omega | (simp; done) | (simp; omega)) _ | assumption | exact Below.refl _ _))) HZ6.out hnl hz2).mono ?_; rintro e w7 ⟨v7, rfl, ho7, hb7⟩; have H7 : Hid (NumRet _ (N * 10 + z) (.returned v7) w7) := ⟨v7, rfl, ho7, hb7⟩; have hs7 : Below wr.heap.size wr w7 := below_via (a := wr) (by repeat (with_reducible first | apply below_drewN | apply Below.drew | refine Below.alloc ?_ (by first | omega | (simp; done) | (simp; omega)) _ | assumption | exact Below.refl _ _)) hb7; have hs7z := hs7.size; clear ho7 hb7))
                    all_goals
                      obtain ⟨a7, c7, rfl⟩ := numR_shape H7.out.numR
                      go_wp2
                      go_roundw
                      case rel =>
                        refine ⟨k + 1, a7, c7, _, by omega, by go_num, rfl, ?_, ?_⟩
                        · show World.numR _ _ _
                          rw [HSN.out]; exact H7.out.numR
                        · have hsz := hB.out.size
                          simp at hsz
                          exact hB.out.trans (hs7.mono (by omega))
                      case measure => simp [intOf]; omega
                  · obtain rfl : k = d.size := by omega
                    have htk : d.data.toList.take d.size = d.data.toList := List.take_length
                    rw [htk] at hN
                    have hdl := dec_len d.data.toList (fun x hx => List.all_eq_true.1 HALL.out x hx) (by show d.size ≤ 617; omega)
                    have hdl2 : (wd (decV d.data.toList)).length ≤ 2000 := by omega
                    obtain ⟨N, hNN⟩ : ∃ N, N = decV d.data.toList := ⟨_, rfl⟩
                    rw [← hNN] at hN hdl2
                    have HNN := Lib.hid hNN
                    have hg1 : (w.alloc (.cells #[.bool false, .string ⟨#[]⟩] 23)).heap[w.heap.size]? = some (.cells #[.bool false, .string ⟨#[]⟩] 23) := heap_alloc_new w _
                    have hg2 := (hB.out.block w.heap.size (by omega)).trans hg1
                    have HG2 := Lib.hid hg2
                    have hbw : Below w.heap.size w wr := HB1.out.trans (hB.out.mono (by omega))
                    have HBW := Lib.hid hbw
                    have hswr := lt_of_heap hg2
                    have HDL2 := Lib.hid hdl2
                    obtain ⟨F1, hF1⟩ : ∃ x, x = outB neg N := ⟨_, rfl⟩
                    obtain ⟨F2, hF2⟩ : ∃ x, x = outE N := ⟨_, rfl⟩
                    have hform := form_num N neg _ wr hN.out hdl2
                    unfold FormRet at hform
                    rw [← hF1, ← hF2] at hform
                    have hwide : ∃ b t, F1 = .agg #[.bool b, .string t] := by
                      rw [hF1]; unfold outB emptyW wideV; split <;> exact ⟨_, _, rfl⟩
                    obtain ⟨fb, ft, rfl⟩ := hwide
                    have HF := Lib.hid hform
                    have HRES : Hid (digRes neg d.data.toList = (.agg #[.bool fb, .string ft], F2)) := by
                      show _ = _
                      rw [digRes, ← HBAD.out, HALL.out, if_neg (by decide), if_neg (show ¬ 617 < d.data.toList.length from h617), ← HNN.out, hF1, hF2, ← outB_z, ← outE_z]
                    clear htk hdl hNN hg1 hg2 hbw hdl2 hF1 hF2 hform
                    go_wp2_with fail
                    (with_reducible refine HF.out.mono ?_)
                    rintro e w3 ⟨rfl, hb3⟩
                    have hg3 := (hb3.block _ hswr).trans HG2.out
                    obtain ⟨c0, c1, f0⟩ := wide_cells hg3
                    have HB3 := Lib.hid (HBW.out.trans (hb3.mono HBW.out.size))
                    clear hb3
                    go_wp2
                    have hg9 := wide_set hg3 fb ft
                    obtain ⟨d0, d1, -⟩ := wide_cells hg9
                    have hb9 : Below w.heap.size w ((w3.setCell ⟨w.heap.size, 0, none⟩ (.bool fb)).setCell ⟨w.heap.size, 1, none⟩ (.string ft)) := (HB3.out.setCell (by simp) _).setCell (by simp) _
                    clear hg9
                    generalize (w3.setCell ⟨w.heap.size, 0, none⟩ (.bool fb)).setCell ⟨w.heap.size, 1, none⟩ (.string ft) = W9 at d0 d1 hb9 ⊢
                    rw [HP.out]
                    exact bodyPost_ret (v := .tuple #[.agg #[.bool fb, .string ft], .int .i64 F2]) (by simp [results, Try.results12, go_sem, d0, d1]) rfl ⟨by rw [HRES.out], hb9⟩
end Go.Proofs.Ytdfklcmiagmgaaa

/- Moves of a walk through a region that draws its order: reads first, then several stores in one order. -/
namespace Go
set_option linter.all false
open RowKit
section
variable {P : Program} {ops : Array Oper} {Q : Exit → Act → World → Prop} {S : World → Prop} {late : Nat → Bool}
/-- As in a held region; what is late need not keep S. -/
def wpAnyD (P : Program) (ops : Array Oper) (Q : Exit → Act → World → Prop) (S : World → Prop) (late : Nat → Bool) : Nat → Array Bool → Act → World → Prop
  | 0, listed, a, w => Region.ready .any ops listed = [] ∧ Q .normal a w
  | fuel + 1, listed, a, w =>
    (Region.ready .any ops listed = [] → Q .normal a w) ∧
    ∀ i ∈ Region.ready .any ops listed, wpOp P ops Q i (fun a' w' => (late i = false → S w → S w') ∧ wpAnyD P ops Q S late fuel (listed.setIfInBounds i true) a' w') a w
theorem wpAny_of_D : ∀ (fuel : Nat) (listed : Array Bool) (a : Act) (w : World), wpAnyD P ops Q S late fuel listed a w → wpAny P .any ops Q fuel listed a w
  | 0, _, _, _, h => h
  | fuel + 1, _, _, _, h => ⟨h.1, fun i hi => wpOp_mono (fun a' w' h' => wpAny_of_D fuel _ a' w' h'.2) (h.2 i hi)⟩
/-- What is late waits for i. -/
def waitsB (ops : Array Oper) (late : Nat → Bool) (i : Nat) : Bool := (List.range ops.size).all fun j => !late j || ((ops[j]?).map fun o => o.after.any fun e => Region.binds .any e && e.on == i).getD false
theorem late_listed {i j : Nat} {listed : Array Bool} (hw : waitsB ops late i = true) (hl : late j = true) (hr : j ∈ Region.ready .any ops listed) : listed.getD i false = true := by
  rw [mem_ready] at hr
  obtain ⟨-, oL, hoL, h3⟩ := hr
  have hj : j < ops.size := by
    rcases Nat.lt_or_ge j ops.size with h | h
    · exact h
    · rw [Array.getElem?_eq_none h] at hoL; cases hoL
  unfold waitsB at hw
  rw [List.all_eq_true] at hw
  have h4 := hw j (List.mem_range.2 hj)
  rw [hl, hoL, Option.map_some, Option.getD_some, Bool.not_true, Bool.false_or, Array.any_eq_true] at h4
  obtain ⟨k, hk, h5⟩ := h4
  rw [Bool.and_eq_true] at h5
  have h6 := h3 _ (Array.getElem_mem hk) h5.1
  rw [beq_iff_eq.1 h5.2] at h6
  exact h6
theorem wpAnyD_first {i : Nat} {oi : Oper} {v : Value} (hw : waitsB ops late i = true) (hi : ops[i]? = some oi) (hsel : ∀ (j : Nat) (o : Oper) cs b, ops[j]? = some o → o.op ≠ .select cs b)
    (hQ : ∀ c a w, Q (.panic c) (a.put oi.dst v) w → Q (.panic c) a w) :
    ∀ (fuel : Nat) (listed : Array Bool) (a : Act) (w : World),
      (∀ j oj, ops[j]? = some oj → j ≠ i → listed.getD j true = false → (∀ e ∈ oj.after, Region.binds .any e = true → e.on ≠ i) → oi.apart ops oj = true) →
      i ∈ Region.ready .any ops listed → YieldsIf P ops S oi v a → S w →
      wpAnyD P ops Q S late fuel (listed.setIfInBounds i true) (a.put oi.dst v) w → wpAnyD P ops Q S late (fuel + 1) listed a w := by
  intro fuel
  induction fuel with
  | zero =>
    intro listed a w _ hr hy hS H
    refine ⟨fun h => (by rw [h] at hr; cases hr), fun j hj => ?_⟩
    by_cases hji : j = i
    · subst hji; exact hy.wpOp hi hS ⟨fun _ h => h, H⟩
    · have := ready_mono hj hji
      rw [H.1] at this
      cases this
  | succ fuel ih =>
    intro listed a w hfree hr hy hS H
    refine ⟨fun h => (by rw [h] at hr; cases hr), fun j hj => ?_⟩
    by_cases hji : j = i
    · subst hji; exact hy.wpOp hi hS ⟨fun _ h => h, H⟩
    · have hjL : late j = false := by
        cases hl : late j with
        | false => rfl
        | true => exact (unlisted_not (mem_ready.1 hr).1 (late_listed hw hl hj)).elim
      have h1 := H.2 j (ready_mono hj hji)
      obtain ⟨hjun, oj, hoj, hall⟩ := mem_ready.1 hj
      have hnot : ∀ e ∈ oj.after, Region.binds .any e = true → e.on ≠ i := fun e he hb heq => by
        have h1 := hall e he hb
        rw [heq] at h1
        exact unlisted_not (mem_ready.1 hr).1 h1
      have h2 := wpOp_putIf hoj (hfree j oj hoj hji hjun hnot) (fun cs b => hsel i oi cs b hi) (fun cs b => hsel j oj cs b hoj) hQ hy h1
      have hfree' : ∀ k ok, ops[k]? = some ok → k ≠ i → (listed.setIfInBounds j true).getD k true = false →
          (∀ e ∈ ok.after, Region.binds .any e = true → e.on ≠ i) → oi.apart ops ok = true := fun k ok hk hki hun hno => by
        refine hfree k ok hk hki ?_ hno
        by_cases hjk : j = k
        · subst hjk; exact hjun
        · rw [getD_set_ne true hjk] at hun; exact hun
      refine wpOp_mono (fun a' w' h3 => ⟨h3.2.1, ih (listed.setIfInBounds j true) a' w' hfree' (ready_mono hr (Ne.symm hji)) h3.1 (h3.2.1 hjL hS) ?_⟩) h2
      rw [Array.setIfInBounds_comm _ _ hji]
      exact h3.2.2
/-- An operation that yields in every world. -/
theorem wpAnyD_firstW {i : Nat} {oi : Oper} {v : Value} (hi : ops[i]? = some oi) (hsel : ∀ (j : Nat) (o : Oper) cs b, ops[j]? = some o → o.op ≠ .select cs b)
    (hQ : ∀ c a w, Q (.panic c) (a.put oi.dst v) w → Q (.panic c) a w) :
    ∀ (fuel : Nat) (listed : Array Bool) (a : Act) (w : World),
      (∀ j oj, ops[j]? = some oj → j ≠ i → listed.getD j true = false → (∀ e ∈ oj.after, Region.binds .any e = true → e.on ≠ i) → oi.apart ops oj = true) →
      i ∈ Region.ready .any ops listed → YieldsIf P ops (fun _ => True) oi v a →
      wpAnyD P ops Q S late fuel (listed.setIfInBounds i true) (a.put oi.dst v) w → wpAnyD P ops Q S late (fuel + 1) listed a w := by
  intro fuel
  induction fuel with
  | zero =>
    intro listed a w _ hr hy H
    refine ⟨fun h => (by rw [h] at hr; cases hr), fun j hj => ?_⟩
    by_cases hji : j = i
    · subst hji; exact hy.wpOp hi trivial ⟨fun _ h => h, H⟩
    · have := ready_mono hj hji
      rw [H.1] at this
      cases this
  | succ fuel ih =>
    intro listed a w hfree hr hy H
    refine ⟨fun h => (by rw [h] at hr; cases hr), fun j hj => ?_⟩
    by_cases hji : j = i
    · subst hji; exact hy.wpOp hi trivial ⟨fun _ h => h, H⟩
    · have h1 := H.2 j (ready_mono hj hji)
      obtain ⟨hjun, oj, hoj, hall⟩ := mem_ready.1 hj
      have hnot : ∀ e ∈ oj.after, Region.binds .any e = true → e.on ≠ i := fun e he hb heq => by
        have h1 := hall e he hb
        rw [heq] at h1
        exact unlisted_not (mem_ready.1 hr).1 h1
      have h2 := wpOp_putIf (S := fun _ => True) hoj (hfree j oj hoj hji hjun hnot) (fun cs b => hsel i oi cs b hi) (fun cs b => hsel j oj cs b hoj) hQ hy h1
      have hfree' : ∀ k ok, ops[k]? = some ok → k ≠ i → (listed.setIfInBounds j true).getD k true = false →
          (∀ e ∈ ok.after, Region.binds .any e = true → e.on ≠ i) → oi.apart ops ok = true := fun k ok hk hki hun hno => by
        refine hfree k ok hk hki ?_ hno
        by_cases hjk : j = k
        · subst hjk; exact hjun
        · rw [getD_set_ne true hjk] at hun; exact hun
      refine wpOp_mono (fun a' w' h3 => ⟨h3.2.1, ih (listed.setIfInBounds j true) a' w' hfree' (ready_mono hr (Ne.symm hji)) h3.1 ?_⟩) h2
      rw [Array.setIfInBounds_comm _ _ hji]
      exact h3.2.2
theorem wpAnyD_take (i : Nat) {oi : Oper} {v : Value} {fuel : Nat} {listed : Array Bool} {a : Act} {w : World} (hr : (Region.ready .any ops listed).contains i = true) (hw : waitsB ops late i = true) (hi : ops.toList[i]? = some oi)
    (hs : Region.noSelect ops = true) (hf : Region.free .any ops listed i = true)
    (hQ : ∀ c a w, Q (.panic c) (a.put oi.dst v) w → Q (.panic c) a w) (hy : YieldsIf P ops S oi v a) (hS : S w)
    (h : wpAnyD P ops Q S late fuel (listed.setIfInBounds i true) (a.put oi.dst v) w) : wpAnyD P ops Q S late (fuel + 1) listed a w :=
  wpAnyD_first hw (by simpa using hi) (Region.noSelect_spec hs) hQ fuel listed a w (Region.free_spec (by simpa using hi) hf) (by simpa using hr) hy hS h
theorem wpAnyD_takeW (i : Nat) {oi : Oper} {v : Value} {fuel : Nat} {listed : Array Bool} {a : Act} {w : World} (hr : (Region.ready .any ops listed).contains i = true) (hi : ops.toList[i]? = some oi)
    (hs : Region.noSelect ops = true) (hf : Region.free .any ops listed i = true)
    (hQ : ∀ c a w, Q (.panic c) (a.put oi.dst v) w → Q (.panic c) a w) (hy : YieldsIf P ops (fun _ => True) oi v a)
    (h : wpAnyD P ops Q S late fuel (listed.setIfInBounds i true) (a.put oi.dst v) w) : wpAnyD P ops Q S late (fuel + 1) listed a w :=
  wpAnyD_firstW (by simpa using hi) (Region.noSelect_spec hs) hQ fuel listed a w (Region.free_spec (by simpa using hi) hf) (by simpa using hr) hy h
/-- The one operation that may come up; it is late. -/
theorem wpAnyD_step (i : Nat) {o : Oper} {fuel : Nat} {listed : Array Bool} {a : Act} {w : World} (hr : Region.ready .any ops listed = [i]) (hl : late i = true) (ho : ops.toList[i]? = some o)
    (h : ∀ K' : Act → World → Prop, Shut (∀ a w, wpAnyD P ops Q S late fuel (listed.setIfInBounds i true) a w → K' a w) → if Region.wanted o (yielded ops a.tmps) = true then Oper.wp P o a w K' Q else K' (a.put o.dst undef) w) :
    wpAnyD P ops Q S late (fuel + 1) listed a w := by
  refine ⟨fun h0 => (by rw [hr] at h0; cases h0), fun j hj => ?_⟩
  rw [hr] at hj
  obtain rfl : j = i := by simpa using hj
  exact wpOp_step (by simpa using ho) (fun K' hK => h K' (fun a w hW => hK a w ⟨fun h => (by rw [hl] at h; cases h), hW⟩))
theorem wpAnyD_end {fuel : Nat} {listed : Array Bool} {a : Act} {w : World} (hr : Region.ready .any ops listed = []) (h : Q .normal a w) : wpAnyD P ops Q S late fuel listed a w := by
  cases fuel with
  | zero => exact ⟨hr, h⟩
  | succ fuel => exact ⟨fun _ => h, by rw [hr]; simp⟩
theorem wp_region_late {id : Nat} {a : Act} {w : World} (S : World → Prop) (late : Nat → Bool) (hm : P.follows .mixedOrders = true) (hS : S w.drew)
    (h : S w.drew → wpAnyD P ops Q S late ops.size (Array.replicate ops.size false) a w.drew) : (Code.region id ops true).wp P Q a w :=
  wp_region_any hm (wpAny_of_D _ _ _ _ (h hS))
end
end Go

/- Plain: decimal digits, nine at a time; a row that is turned round. -/
namespace Go.Proofs.Ytdfklcmiagmgaaa
set_option linter.all false
open Go.WideNum
theorem dec_split (N k : Nat) (hk : k ≤ 9) : N / 10 ^ k = N / 1000000000 * 10 ^ (9 - k) + N % 1000000000 / 10 ^ k := by
  have h := Nat.div_add_mod N 1000000000
  have hp : 0 < 10 ^ k := Nat.pow_pos (by omega)
  have e : 10 ^ k * 10 ^ (9 - k) = 1000000000 := by rw [← Nat.pow_add, show k + (9 - k) = 9 by omega]
  conv => lhs; rw [← h, ← e, Nat.mul_assoc, Nat.add_comm, Nat.add_mul_div_left _ _ hp]
  rw [e, Nat.add_comm, Nat.mul_comm]
theorem div_pow_add (n m k : Nat) : n / 10 ^ (m + k) = n / 10 ^ m / 10 ^ k := by rw [Nat.pow_add, Nat.div_div_eq_div_mul]
theorem dig_ten (n m k : Nat) (hk : k < 9) : dig 10 n (m + k) = n / 10 ^ m % 1000000000 / 10 ^ k % 10 := by
  unfold dig
  rw [div_pow_add, dec_split _ k (by omega)]
  obtain ⟨j, hj⟩ : ∃ j, 9 - k = j + 1 := ⟨8 - k, by omega⟩
  rw [hj, Nat.pow_succ, ← Nat.mul_assoc, Nat.add_comm, Nat.add_mul_mod_self_right]
theorem ten_pos {n j : Nat} (h : n / 10 ^ j ≠ 0) : j < (words 10 n).length := by
  rcases Nat.lt_or_ge j (words 10 n).length with h1 | h1
  · exact h1
  · exfalso
    apply h
    exact Nat.div_eq_of_lt (Nat.lt_of_lt_of_le (words_vlt (by omega) n) (Nat.pow_le_pow_right (by omega) h1))
theorem ten_zero {n j : Nat} (h : n / 10 ^ j = 0) : (words 10 n).length ≤ j := by
  refine words_length (by omega) n j ?_
  rcases (Nat.div_eq_zero_iff).1 h with h | h
  · have := Nat.pow_pos (show 0 < 10 by omega) (n := j); omega
  · exact h
/-- The digits of a number, the lowest first, as bytes. -/
def decDig (n m : Nat) : List Nat := (List.range m).map (fun j => 48 + dig 10 n j)
theorem decDig_succ (n m : Nat) : decDig n (m + 1) = decDig n m ++ [48 + dig 10 n m] := by unfold decDig; rw [List.range_succ, List.map_append]; rfl
theorem decDig_words (n : Nat) : decDig n (words 10 n).length = (words 10 n).map (fun d => 48 + d) := by
  unfold decDig
  apply List.ext_getElem
  · simp
  · intro i h1 h2
    have hi : i < (words 10 n).length := by simpa using h1
    have h3 := words_getE (B := 10) (by omega) n i hi
    rw [List.getElem?_eq_getElem hi] at h3
    injection h3 with h3
    simp [h3]
theorem decDig_lt (n m : Nat) : ∀ x ∈ decDig n m, x < 58 := by
  intro x hx
  unfold decDig at hx
  obtain ⟨j, _, rfl⟩ := List.mem_map.1 hx
  have := dig_lt (B := 10) (by omega) n j
  show 48 + dig 10 n j < 58
  omega
/-- What is turned round when i pairs have been swapped. -/
def revTo (l : List Nat) (i : Nat) : List Nat := (List.range l.length).map (fun j => if j < i ∨ l.length - 1 - i < j then l.getD (l.length - 1 - j) 0 else l.getD j 0)
theorem revTo_length (l : List Nat) (i : Nat) : (revTo l i).length = l.length := by simp [revTo]
theorem revTo_zero (l : List Nat) : revTo l 0 = l := by
  apply List.ext_getElem
  · simp [revTo]
  · intro j h1 h2
    simp only [revTo, List.getElem_map, List.getElem_range]
    rw [if_neg (by omega), List.getD_eq_getElem?_getD, List.getElem?_eq_getElem h2]; rfl
theorem revTo_get (l : List Nat) (i j : Nat) (hj : j < l.length) : (revTo l i).getD j 0 = if j < i ∨ l.length - 1 - i < j then l.getD (l.length - 1 - j) 0 else l.getD j 0 := by
  rw [List.getD_eq_getElem?_getD, List.getElem?_eq_getElem (by rw [revTo_length]; exact hj)]
  simp [revTo]
theorem revTo_step (l : List Nat) (i k : Nat) (hik : i < k) (hk : k = l.length - 1 - i) (hk2 : k < l.length) :
    revTo l (i + 1) = ((revTo l i).set i ((revTo l i).getD k 0)).set k ((revTo l i).getD i 0) := by
  have g1 := revTo_get l i k hk2
  have g2 := revTo_get l i i (by omega)
  rw [if_neg (by omega)] at g1 g2
  rw [g1, g2]
  apply List.ext_getElem
  · simp [revTo]
  · intro j h1 h2
    have hj : j < l.length := by simpa [revTo] using h1
    rw [List.getElem_set, List.getElem_set]
    have e : ∀ m (h : j < (revTo l m).length), (revTo l m)[j] = if j < m ∨ l.length - 1 - m < j then l.getD (l.length - 1 - j) 0 else l.getD j 0 := fun m h => by simp [revTo]
    rw [e, e]
    by_cases c1 : k = j
    · rw [if_pos c1, if_pos (by omega)]
      congr 1; omega
    · rw [if_neg c1]
      by_cases c2 : i = j
      · rw [if_pos c2, if_pos (by omega)]
        congr 1; omega
      · rw [if_neg c2]
        by_cases c3 : j < i ∨ l.length - 1 - i < j
        · rw [if_pos c3, if_pos (by omega)]
        · rw [if_neg c3, if_neg (by omega)]
theorem revTo_done (l : List Nat) (i : Nat) (h : l.length ≤ 2 * i + 1) : revTo l i = l.reverse := by
  apply List.ext_getElem
  · simp [revTo]
  · intro j h1 h2
    have hj : j < l.length := by simpa [revTo] using h1
    rw [List.getElem_reverse]
    simp only [revTo, List.getElem_map, List.getElem_range]
    split
    · rw [List.getD_eq_getElem?_getD, List.getElem?_eq_getElem (by omega)]; rfl
    · have : l.length - 1 - j = j := by omega
      rw [List.getD_eq_getElem?_getD, List.getElem?_eq_getElem hj]
      simp [this]
/-- The decimal text of an integer. -/
def textN (neg : Bool) (n : Nat) : List Nat := decDig n (words 10 n).length ++ (if neg then [45] else [])
def textL (neg : Bool) (n : Nat) : List UInt8 := if n = 0 then [48] else (textN neg n).reverse.map UInt8.ofNat
def textB (neg : Bool) (n : Nat) : ByteArray := ⟨(textL neg n).toArray⟩
end Go.Proofs.Ytdfklcmiagmgaaa

/- Walks: the decimal text of a form. -/
namespace Go.Proofs.Ytdfklcmiagmgaaa
set_option linter.all false
open Go.RowKit Go.Shelf Go.WideNum
def u8V (x : Nat) : Value := .int .u8 (x : Int)
theorem app_u8 {ops : Array Oper} {rest : List Oper} {o : Oper} {a : Act} {Q : Exit → Act → World → Prop} (W : World) (hg : o.guard = none) (s x : Operand)
    (hop : o.op = .call { callee := .builtin .append, args := #[s, x], argTypes := #[67, 67] })
    (base : Nat) (v : Value) (n : Nat) (xs : List Value) (hs : a.eval s = v) (hown : W.owns base 5 1 v n xs) (u : Int) (H : Nat) (hH : W.heap.size = H) (hx : a.eval x = .slice (some ⟨H, 0, none⟩) 1 1)
    (hn : n ≤ 1000000) (hbase : base ≤ W.heap.size)
    (h : ∀ v' w', w'.owns base 5 1 v' (n + 1) (xs ++ [.int .u8 u]) → W.grownBy w' v.ownBlock → W.heap.size < w'.heap.size → wpList Try.prog ops Q rest (a.put o.dst v') w') : wpList Try.prog ops Q (o :: rest) a (W.alloc (.cells #[.int .u8 u] 5)) := by
  obtain ⟨i0, hi, hz, h1, h2⟩ := info_parts infoByte
  exact wpList_append1 W hg s x 67 hop base 5 i0 (.int .u8 0) 1 Try.underlying67 hi hz h1 h2 rfl v n xs hs hown (.int .u8 u) H hH hx rfl (by unfold maxLen; omega) (by omega) hbase (fun v' w' h1 _ h3 h4 => h v' w' h1 h3 h4)
/-- Bytes that are owned, made a string. -/
theorem own_string {W : World} {base g n c : Nat} {l : List Nat} (h : W.owns base 5 1 (.slice (some ⟨g, 0, none⟩) n c) n (l.map u8V)) (hl : ∀ x ∈ l, x < 256) (dst : TypeId) (hd : Try.prog.underlying dst = some .string) :
    (convert 67 dst (.slice (some ⟨g, 0, none⟩) n c)).run Try.prog W = .ok (.string ⟨(l.map UInt8.ofNat).toArray⟩) W := by
  have hn : l.length = n := by have := h.1; simpa using this
  have e : l.map u8V = (l.map UInt8.ofNat).map fun b => Value.int .u8 (b.toNat : Int) := by
    rw [List.map_map]
    apply List.map_congr_left
    intro x hx
    show Value.int .u8 (x : Int) = Value.int .u8 (((UInt8.ofNat x).toNat : Nat) : Int)
    rw [UInt8.toNat_ofNat', Nat.mod_eq_of_lt (hl x hx)]
  rw [e] at h
  have h2 := run_owns_string (P := Try.prog) (w := W) (m := n) 67 dst 5 Try.underlying67 Try.underlying5 hd h (by simp [hn]) c
  rw [List.take_of_length_le (by simp [hn])] at h2
  exact h2
theorem Valid_wide (neg : Bool) (s : ByteArray) (hs : s.size ≤ maxLen) (w : World) :
    Calls Try.prog 16 #[.agg #[.bool neg, .string s]] w fun e w' => e = .returned (.bool (validB neg s)) ∧ Below w.heap.size w w' := Valid_any neg s hs w
theorem of_wide (neg : Bool) (s : ByteArray) (hs : s.size ≤ 2000) (w : World) : Calls Try.prog 58 #[.agg #[.bool neg, .string s]] w (NumRet w (numB s)) := of_any neg s hs w
theorem short_num (A n : Nat) (hn0 : 0 < n) (hn : n < 4294967296) (va : Value) (w : World) (hA : World.numR w va A) (hla : (wd A).length ≤ 2000) (z : Int) (hz : z = (n : Int)) :
    Calls Try.prog 59 #[va, .int .u32 z] w (ShortRet w A n) := by subst hz; exact short_any A n hn0 hn va w hA hla
theorem owns_fz {W : World} {base g n c : Nat} {e : TypeId} {xs : List Value} (h : W.owns base e 1 (.slice (some ⟨g, 0, none⟩) n c) n xs) (j : Nat) (hj : j < n) : W.frozen? ⟨g, j, none⟩ = false := by
  rcases h.2 with ⟨h0, _⟩ | ⟨g', cap, cur, fz, hv, hb, hg, hf, hle, hm, hs, _⟩
  · cases h0
  · injection hv with h1 h2 h3
    injection h1 with h1
    injection h1 with h1
    subst h1 h3
    have := hf j (by omega)
    simp [World.frozen?, hg]
    omega
theorem below_grown2 {w W W' : World} {v : Value} {n : Nat} {xs : List Value} {e : TypeId} (hb : Below w.heap.size w W) (h : W.owns w.heap.size e 1 v n xs) (hg : W.grownBy W' v.ownBlock) : Below w.heap.size w W' :=
  hb.trans (below_grown h hg w.heap.size (Nat.le_refl _) hb.size)
def TextRet (w : World) (neg : Bool) (s : ByteArray) (e : Ending) (w' : World) : Prop := e = .returned (.tuple #[.string (if validB neg s then textB neg (numB s) else ⟨#[]⟩), .int .i64 (if validB neg s then 0 else 2)]) ∧ Below w.heap.size w w'
set_option maxRecDepth 100000 in
set_option maxHeartbeats 8000000 in
theorem Text_any (neg : Bool) (s : ByteArray) (hs : s.size ≤ maxLen) (w : World) :
    Calls Try.prog 14 #[wideV neg s] w (TextRet w neg s) := by
  unfold wideV
  obtain ⟨HPOST, hpost⟩ : ∃ X, X = TextRet w neg s := ⟨_, rfl⟩
  rw [← hpost]
  have HP := Lib.hid hpost
  clear hpost
  have hs63 : s.size ≤ 9223372036854775807 := hs
  have HVAL : Hid (∀ W : World, Calls Try.prog 16 #[.agg #[.bool neg, .string s]] W fun e w' => e = .returned (.bool (validB neg s)) ∧ Below W.heap.size W w') := Valid_wide neg s hs
  cases hv : validB neg s with
  | false =>
    rw [hv] at HVAL
    have HV := Lib.hid hv
    clear hv
    go_enter Try.func14, Try.ntmps14
    go_wp2_with fail
    (with_reducible refine (HVAL.out _).mono ?_)
    rintro e w1 ⟨rfl, hb⟩
    have HB := Lib.hid (((Below.refl w.heap.size w).alloc (Nat.le_refl _) (.cells #[.bool neg, .string s] 23)).trans (hb.mono (by simp)))
    clear hb
    go_wp2
    rw [HP.out]
    exact ⟨by rw [HV.out]; rfl, HB.out⟩
  | true =>
    obtain ⟨hlim, hmag, hnz, h256⟩ := valid_spec neg s hv
    rw [hv] at HVAL
    have HV := Lib.hid hv
    have HOF : Hid (∀ W : World, Calls Try.prog 58 #[.agg #[.bool neg, .string s]] W (NumRet W (numB s))) := of_wide neg s (by omega)
    obtain ⟨n, hn⟩ : ∃ n, n = numB s := ⟨_, rfl⟩
    rw [← hn] at hlim hmag hnz HOF
    have HN := Lib.hid hn
    have HMAG := Lib.hid hmag
    have HLIM := Lib.hid hlim
    clear hv hn hmag hlim hnz
    by_cases h0 : s.size = 0
    · have hse : s = ⟨#[]⟩ := by
        apply ByteArray.ext
        exact Array.eq_empty_of_size_eq_zero h0
      have hn0 : n = 0 := by rw [HN.out, hse]; rfl
      subst hse
      subst hn0
      go_enter Try.func14, Try.ntmps14
      go_wp2_with fail
      (with_reducible refine (HVAL.out _).mono ?_)
      rintro e w1 ⟨rfl, hb⟩
      have hw1 := (hb.block w.heap.size (by simp)).trans (heap_alloc_new w _)
      obtain ⟨c0, c1, f0⟩ := wide_cells hw1
      have HB := Lib.hid (((Below.refl w.heap.size w).alloc (Nat.le_refl _) (.cells #[.bool neg, .string ⟨#[]⟩] 23)).trans (hb.mono (by simp)))
      clear hb hw1
      go_wp2
      rw [HP.out]
      exact ⟨by rw [HV.out, ← HN.out]; rfl, HB.out⟩
    · have hns : ¬ s = (⟨#[]⟩ : ByteArray) := fun h => h0 (by rw [h]; rfl)
      have hem : s.toList.isEmpty = false := by
        rw [ByteArray.toList_eq]
        cases hl : s.data.toList with
        | nil =>
          exfalso
          apply h0
          show s.data.size = 0
          rw [← Array.length_toList, hl]; rfl
        | cons a l => rfl
      have hn0 : n ≠ 0 := by
        intro h
        have := HMAG.out
        rw [h] at this
        exact h0 (by rw [← this]; rfl)
      have hwl := wd_len65 HLIM.out
      obtain ⟨D, hD⟩ : ∃ D, D = (words 10 n).length := ⟨_, rfl⟩
      have hD1000 : D ≤ 1000 := by
        rw [hD]
        refine words_length (by omega) n 1000 (Nat.lt_trans HLIM.out ?_)
        unfold lim
        decide +kernel
      have HWL := Lib.hid hwl
      have HD := Lib.hid hD
      have HN0 := Lib.hid hn0
      clear hwl hD hn0
      go_enter Try.func14, Try.ntmps14
      go_wp2_with fail
      (with_reducible refine (HVAL.out _).mono ?_)
      rintro e w1 ⟨rfl, hb⟩
      have hw1 := (hb.block w.heap.size (by simp)).trans (heap_alloc_new w _)
      obtain ⟨c0, c1, f0⟩ := wide_cells hw1
      have HB := Lib.hid (((Below.refl w.heap.size w).alloc (Nat.le_refl _) (.cells #[.bool neg, .string s] 23)).trans (hb.mono (by simp)))
      have HW1 := Lib.hid hw1
      clear hb hw1
      go_wp2_with fail
      (with_reducible refine (HOF.out _).mono ?_)
      rintro e w2 hr2
      obtain ⟨v2, rfl, ho2, hb2⟩ := hr2
      have hn2 : World.numR w2 v2 n := ho2.reads
      obtain ⟨a2, c2, rfl⟩ := numR_shape hn2
      have hw2 := (hb2.block w.heap.size (lt_of_heap HW1.out)).trans HW1.out
      have HN2 : Hid (World.numR w2 (.slice a2 (wd n).length c2) (n / 10 ^ 0)) := by show World.numR _ _ _; rw [Nat.pow_zero, Nat.div_one]; exact hn2
      have HW2 := Lib.hid hw2
      have HB2 := Lib.hid (HB.out.trans (hb2.mono HB.out.size))
      clear c0 c1 f0 ho2 hb2 hn2 hw2
      go_wp2_with fail
      go_loopw [4, 5] (fun sv av wr => ∃ (m L : Nat) (a : Option Addr) (c : Nat) (va : Option Addr) (vc : Nat), m ≤ D ∧ av = .slice a L c ∧ sv = .slice va m vc ∧ Hid (L = (wd (n / 10 ^ m)).length) ∧ Hid (World.numR wr (.slice a L c) (n / 10 ^ m)) ∧ Hid (wr.owns w.heap.size 5 1 (.slice va m vc) m ((decDig n m).map u8V)) ∧ Hid (wr.heap[w.heap.size]? = some (.cells #[.bool neg, .string s] 23)) ∧ Hid (Below w.heap.size w wr)) (fun sv _ _ => D - lenOf sv)
      case atStart => exact ⟨0, _, _, _, none, 0, Nat.zero_le _, rfl, rfl, by show _ = _; rw [Nat.pow_zero, Nat.div_one], HN2.out, World.owns_nil _ _ _ _, HW2.out, HB2.out⟩
      case round =>
        obtain ⟨m, L, a, c, va, vc, hm, rfl, rfl, hL, hA, hO, hW, hB⟩ := hrel
        by_cases hz : n / 10 ^ m = 0
        · have hmD : m = D := by have := ten_zero hz; rw [← HD.out] at this; omega
          have hL0 : L = 0 := by rw [hL.out, hz]; rfl
          subst hmD
          subst hL0
          obtain ⟨c0, c1, f0⟩ := wide_cells hW.out
          obtain ⟨M, hM⟩ : ∃ M, M = (textN neg n).length := ⟨_, rfl⟩
          have HM := Lib.hid hM
          have hszW := hB.out.size
          have htl : (textN neg n).length = m + (if neg then 1 else 0) := by
            unfold textN
            rw [List.length_append, ← HD.out]
            congr 1
            · simp [decDig]
            · split <;> rfl
          have HTL := Lib.hid htl
          clear hL hM hz htl
          go_upto_if 49 with (fail)
          go_cut [4] (fun sv wx => ∃ (g vc2 : Nat), sv = .slice (some ⟨g, 0, none⟩) M vc2 ∧ Hid (wx.owns w.heap.size 5 1 (.slice (some ⟨g, 0, none⟩) M vc2) M ((textN neg n).map u8V)) ∧ Hid (Below w.heap.size w wx))
          case first =>
            cases neg with
            | true =>
              have hMm : M = m + 1 := by rw [HM.out, HTL.out]; rfl
              go_wp2_with (at_builtin; refine app_u8 wr rfl (.tmp 50) (.tmp 51) rfl w.heap.size (.slice va m vc) m _ rfl hO.out (45 : Int) wr.heap.size rfl rfl (by omega) hszW ?_; intro v7 w7 hown7 hg7 hz7; have HO7 := Lib.hid hown7; obtain ⟨g7, q7, rfl⟩ := hown7.succ; have HB7 := Lib.hid (below_grown2 hB.out hO.out hg7); clear hown7 hg7)
              go_meet
              case rel =>
                refine ⟨g7, q7, by rw [hMm], ?_, HB7.out⟩
                show World.owns _ _ _ _ _ _ _
                rw [hMm, textN, List.map_append, ← HD.out]
                exact HO7.out
            | false =>
              have hMm : M = m := by rw [HM.out, HTL.out]; rfl
              have hm0 : 0 < m := by
                have := ten_pos (n := n) (j := 0) (by have := HN0.out; omega)
                rw [← HD.out] at this; exact this
              obtain ⟨g7, q7, hg7⟩ := hO.out.pos hm0
              injection hg7 with e1 e2 e3
              subst e1 e3
              go_wp2
              go_meet
              case rel =>
                refine ⟨g7, _, by rw [hMm], ?_, hB.out⟩
                show World.owns _ _ _ _ _ _ _
                rw [hMm, textN, ← HD.out]
                simpa using hO.out
          case rest =>
            obtain ⟨g, vc2, rfl, hO9, hB9⟩ := hcut
            clear c0 c1 f0 hW hszW hO hB hA
            have hMl : M ≤ 1001 := by rw [HM.out, HTL.out]; split <;> omega
            obtain ⟨l, hl⟩ : ∃ l, l = textN neg n := ⟨_, rfl⟩
            rw [← hl] at hO9 HM
            have HLL := Lib.hid hl
            have hM1 : 1 ≤ M := by
              have := ten_pos (n := n) (j := 0) (by have := HN0.out; omega)
              rw [← HD.out] at this
              have := HTL.out
              have := HM.out
              rw [hl] at this
              omega
            clear hl
            go_wp2_with fail
            go_loopw [8, 9] (fun iv kv wr => ∃ i : Nat, 2 * i ≤ M + 1 ∧ iv = .int .i64 (i : Int) ∧ kv = .int .i64 ((M : Int) - 1 - (i : Int)) ∧ Hid (wr.owns w.heap.size 5 1 (.slice (some ⟨g, 0, none⟩) M vc2) M ((revTo l i).map u8V)) ∧ Hid (Below w.heap.size w wr)) (fun iv _ _ => M - (intOf iv).toNat)
            case atStart => exact ⟨0, by omega, rfl, by simp, by show World.owns _ _ _ _ _ _ _; rw [revTo_zero]; exact hO9.out, hB9.out⟩
            case round =>
              obtain ⟨i, hi, rfl, rfl, hO, hB⟩ := hrel
              by_cases hlt : (i : Int) < (M : Int) - 1 - (i : Int)
              · obtain ⟨k, hk⟩ : ∃ k, k = M - 1 - i := ⟨_, rfl⟩
                have ek : (M : Int) - 1 - (i : Int) = (k : Int) := by omega
                rw [ek] at hlt ⊢
                have hik : i < k := by omega
                have hkM : k < M := by omega
                have hgs := fun j hj => revTo_get l i j hj
                obtain ⟨x, hx⟩ : ∃ x, x = (revTo l i).getD i 0 := ⟨_, rfl⟩
                obtain ⟨y, hy⟩ : ∃ y, y = (revTo l i).getD k 0 := ⟨_, rfl⟩
                have hst := revTo_step l i k hik (by rw [← HM.out]; exact hk) (by rw [← HM.out]; exact hkM)
                rw [← hx, ← hy] at hst
                have hci : wr.cell? ⟨g, i, none⟩ = some (.int .u8 (x : Int)) := by
                  refine hO.out.cell i _ ?_
                  rw [List.getElem?_map, List.getElem?_eq_getElem (by rw [revTo_length, ← HM.out]; omega), hx, List.getD_eq_getElem?_getD, List.getElem?_eq_getElem (by rw [revTo_length, ← HM.out]; omega)]
                  rfl
                have hck : wr.cell? ⟨g, k, none⟩ = some (.int .u8 (y : Int)) := by
                  refine hO.out.cell k _ ?_
                  rw [List.getElem?_map, List.getElem?_eq_getElem (by rw [revTo_length, ← HM.out]; omega), hy, List.getD_eq_getElem?_getD, List.getElem?_eq_getElem (by rw [revTo_length, ← HM.out]; omega)]
                  rfl
                have hfi := owns_fz hO.out i (by omega)
                have hfk := owns_fz hO.out k hkM
                obtain ⟨-, -, hgw, -, -⟩ := hO.out.facts
                have w1 : IntKind.i64.wrap (i : Int) = (i : Int) := IntWalk.i64_in _ (by omega)
                have w2 : IntKind.i64.wrap (k : Int) = (k : Int) := IntWalk.i64_in _ (by omega)
                have w3 : (0 : Int) ≤ (i : Int) := by omega
                have w4 : (0 : Int) ≤ (k : Int) := by omega
                have w5 : (i : Int) < (M : Int) := by omega
                have w6 : (k : Int) < (M : Int) := by omega
                have w7 : ¬ i = k := by omega
                have w8 : ¬ k = i := by omega
                have e9 : (k : Int) - 1 = (M : Int) - 1 - ((i + 1 : Nat) : Int) := by omega
                have HST := Lib.hid hst
                have HE9 := Lib.hid e9
                have h2i : 2 * (i + 1) ≤ M + 1 := by omega
                clear hx hy hst hgs hk e9 ek
                go_wp2_with fail
                refine wp_region_late (fun w' => w'.cell? ⟨g, i, none⟩ = some (.int .u8 (x : Int)) ∧ w'.cell? ⟨g, k, none⟩ = some (.int .u8 (y : Int))) (fun j => decide (13 ≤ j)) (by kernel_rfl) ⟨hci, hck⟩ (fun hHeld => ?_)
                refine wpAnyD_takeW 0 (v := ?_) (by kernel_rfl) rfl (by kernel_rfl) (by kernel_rfl) (fun _ _ _ h => h) (Or.inl ⟨by rfl, ?_⟩) ?_
                rotate_left
                · (intro wq hSq; (try dsimp only at hSq); go_simp; try with_reducible rfl)
                try simp only [Act.put, List.setIfInBounds_toArray, List.set_cons_zero, List.set_cons_succ]
                refine wpAnyD_takeW 1 (v := ?_) (by kernel_rfl) rfl (by kernel_rfl) (by kernel_rfl) (fun _ _ _ h => h) (Or.inl ⟨by rfl, ?_⟩) ?_
                rotate_left
                · (intro wq hSq; (try dsimp only at hSq); go_simp; try with_reducible rfl)
                try simp only [Act.put, List.setIfInBounds_toArray, List.set_cons_zero, List.set_cons_succ]
                refine wpAnyD_takeW 2 (v := ?_) (by kernel_rfl) rfl (by kernel_rfl) (by kernel_rfl) (fun _ _ _ h => h) (Or.inl ⟨by rfl, ?_⟩) ?_
                rotate_left
                · (intro wq hSq; (try dsimp only at hSq); go_simp; try with_reducible rfl)
                try simp only [Act.put, List.setIfInBounds_toArray, List.set_cons_zero, List.set_cons_succ]
                refine wpAnyD_takeW 3 (v := ?_) (by kernel_rfl) rfl (by kernel_rfl) (by kernel_rfl) (fun _ _ _ h => h) (Or.inl ⟨by rfl, ?_⟩) ?_
                rotate_left
                · (intro wq hSq; (try dsimp only at hSq); go_simp; try with_reducible rfl)
                try simp only [Act.put, List.setIfInBounds_toArray, List.set_cons_zero, List.set_cons_succ]
                refine wpAnyD_takeW 4 (v := ?_) (by kernel_rfl) rfl (by kernel_rfl) (by kernel_rfl) (fun _ _ _ h => h) (Or.inl ⟨by rfl, ?_⟩) ?_
                rotate_left
                · (intro wq hSq; (try dsimp only at hSq); go_simp; try with_reducible rfl)
                try simp only [Act.put, List.setIfInBounds_toArray, List.set_cons_zero, List.set_cons_succ]
                refine wpAnyD_takeW 5 (v := ?_) (by kernel_rfl) rfl (by kernel_rfl) (by kernel_rfl) (fun _ _ _ h => h) (Or.inl ⟨by rfl, ?_⟩) ?_
                rotate_left
                · (intro wq hSq; (try dsimp only at hSq); go_simp; try with_reducible rfl)
                try simp only [Act.put, List.setIfInBounds_toArray, List.set_cons_zero, List.set_cons_succ]
                refine wpAnyD_takeW 6 (v := ?_) (by kernel_rfl) rfl (by kernel_rfl) (by kernel_rfl) (fun _ _ _ h => h) (Or.inl ⟨by rfl, ?_⟩) ?_
                rotate_left
                · (intro wq hSq; (try dsimp only at hSq); go_simp; try with_reducible rfl)
                try simp only [Act.put, List.setIfInBounds_toArray, List.set_cons_zero, List.set_cons_succ]
                refine wpAnyD_take 7 (v := ?_) (by kernel_rfl) (by kernel_rfl) rfl (by kernel_rfl) (by kernel_rfl) (fun _ _ _ h => h) (Or.inl ⟨by rfl, ?_⟩) (by assumption) ?_
                rotate_left
                · (intro wq hSq; (try dsimp only at hSq); go_simp; try with_reducible rfl)
                try simp only [Act.put, List.setIfInBounds_toArray, List.set_cons_zero, List.set_cons_succ]
                refine wpAnyD_takeW 8 (v := ?_) (by kernel_rfl) rfl (by kernel_rfl) (by kernel_rfl) (fun _ _ _ h => h) (Or.inl ⟨by rfl, ?_⟩) ?_
                rotate_left
                · (intro wq hSq; (try dsimp only at hSq); go_simp; try with_reducible rfl)
                try simp only [Act.put, List.setIfInBounds_toArray, List.set_cons_zero, List.set_cons_succ]
                refine wpAnyD_takeW 9 (v := ?_) (by kernel_rfl) rfl (by kernel_rfl) (by kernel_rfl) (fun _ _ _ h => h) (Or.inl ⟨by rfl, ?_⟩) ?_
                rotate_left
                · (intro wq hSq; (try dsimp only at hSq); go_simp; try with_reducible rfl)
                try simp only [Act.put, List.setIfInBounds_toArray, List.set_cons_zero, List.set_cons_succ]
                refine wpAnyD_takeW 10 (v := ?_) (by kernel_rfl) rfl (by kernel_rfl) (by kernel_rfl) (fun _ _ _ h => h) (Or.inl ⟨by rfl, ?_⟩) ?_
                rotate_left
                · (intro wq hSq; (try dsimp only at hSq); go_simp; try with_reducible rfl)
                try simp only [Act.put, List.setIfInBounds_toArray, List.set_cons_zero, List.set_cons_succ]
                refine wpAnyD_take 11 (v := ?_) (by kernel_rfl) (by kernel_rfl) rfl (by kernel_rfl) (by kernel_rfl) (fun _ _ _ h => h) (Or.inl ⟨by rfl, ?_⟩) (by assumption) ?_
                rotate_left
                · (intro wq hSq; (try dsimp only at hSq); go_simp; try with_reducible rfl)
                try simp only [Act.put, List.setIfInBounds_toArray, List.set_cons_zero, List.set_cons_succ]
                refine wpAnyD_takeW 12 (v := ?_) (by kernel_rfl) rfl (by kernel_rfl) (by kernel_rfl) (fun _ _ _ h => h) (Or.inl ⟨by rfl, ?_⟩) ?_
                rotate_left
                · (intro wq hSq; (try dsimp only at hSq); go_simp; try with_reducible rfl)
                try simp only [Act.put, List.setIfInBounds_toArray, List.set_cons_zero, List.set_cons_succ]
                refine wpAnyD_step 13 (by kernel_rfl) rfl rfl (fun K hK => ?_)
                go_simp
                refine hK.out _ _ ?_
                clear hK K
                try simp only [Act.put, List.setIfInBounds_toArray, List.set_cons_zero, List.set_cons_succ]
                refine wpAnyD_takeW 14 (v := ?_) (by kernel_rfl) rfl (by kernel_rfl) (by kernel_rfl) (fun _ _ _ h => h) (Or.inl ⟨by rfl, ?_⟩) ?_
                rotate_left
                · (intro wq hSq; (try dsimp only at hSq); go_simp; try with_reducible rfl)
                try simp only [Act.put, List.setIfInBounds_toArray, List.set_cons_zero, List.set_cons_succ]
                refine wpAnyD_step 15 (by kernel_rfl) rfl rfl (fun K hK => ?_)
                go_simp
                refine hK.out _ _ ?_
                clear hK K
                try simp only [Act.put, List.setIfInBounds_toArray, List.set_cons_zero, List.set_cons_succ]
                refine wpAnyD_end (by kernel_rfl) ?_
                go_wp2
                clear w1 w2
                go_roundw
                case rel =>
                  refine ⟨i + 1, h2i, by go_num, by rw [HE9.out], ?_, ((hB.out.setCell hgw _).setCell hgw _).drew⟩
                  show World.owns _ _ _ _ _ _ _
                  rw [HST.out, List.map_set, List.map_set]
                  exact ((hO.out.setOwn i (u8V y)).setOwn k (u8V x)).drew
                case measure => simp [intOf]; omega
              · have hdone := revTo_done l i (by rw [← HM.out]; omega)
                have ho := hO.out
                rw [hdone] at ho
                have hcv := own_string ho (fun x hx => by
                  rw [HLL.out, textN] at hx
                  rcases List.mem_append.1 (List.mem_reverse.1 hx) with h | h
                  · have := decDig_lt _ _ x h; omega
                  · split at h
                    · rw [List.mem_singleton.1 h]; omega
                    · cases h) 9 Try.underlying9
                obtain ⟨T, hT⟩ : ∃ T : ByteArray, T = ⟨(l.reverse.map UInt8.ofNat).toArray⟩ := ⟨_, rfl⟩
                rw [← hT] at hcv
                have HT := Lib.hid hT
                clear hT hdone ho
                go_wp2
                rw [HP.out]
                refine ⟨?_, hB.out⟩
                rw [HV.out, ← HN.out]
                have : textB neg n = T := by
                  unfold textB textL
                  rw [if_neg HN0.out, HT.out, HLL.out]
                rw [this]
                rfl
        · have hmD := ten_pos hz
          rw [← HD.out] at hmD
          obtain ⟨N, hN⟩ : ∃ N, N = n / 10 ^ m := ⟨_, rfl⟩
          rw [← hN] at hL hA hz
          have hLp : 0 < L := by rw [hL.out]; exact wd_pos hz
          have hLp' : (0 : Int) < (L : Int) := by omega
          have hNl : (wd N).length ≤ 2000 := by
            have h1 := words_length (B := 4294967296) (by omega) N 64 (by
              have := wd_vlt n
              have h2 : N ≤ n := by rw [hN]; exact Nat.div_le_self _ _
              exact Nat.lt_of_le_of_lt h2 (Nat.lt_of_lt_of_le this (Nat.pow_le_pow_right (by omega) HWL.out)))
            unfold wd; omega
          obtain ⟨wo, hwo⟩ : ∃ x, x = wr := ⟨_, rfl⟩
          rw [← hwo] at hA hO hW hB ⊢
          have HNN := Lib.hid hN
          have HZ := Lib.hid hz
          clear hwo hN hz
          go_wp2_with fail
          (with_reducible refine (short_num N 1000000000 (by omega) (by omega) _ wo hA.out hNl (1000000000 : Int) rfl).mono ?_)
          rintro e w5 ⟨v5, rfl, hr5⟩
          obtain ⟨v6, hv6, ho5, hb5⟩ := hr5
          injection hv6 with hv6
          subst hv6
          obtain ⟨a5, c5, hv5, -, -, -⟩ := ho5.at_
          subst hv5
          obtain ⟨q, hq⟩ : ∃ q, q = N / 1000000000 := ⟨_, rfl⟩
          obtain ⟨r0, hr0⟩ : ∃ r, r = N % 1000000000 := ⟨_, rfl⟩
          rw [← hq] at ho5 ⊢
          rw [← hr0]
          obtain ⟨Lq, hLq⟩ : ∃ L, L = (wd q).length := ⟨_, rfl⟩
          rw [← hLq] at ho5 ⊢
          have hr9 : r0 < 1000000000 := by rw [hr0]; exact Nat.mod_lt _ (by omega)
          have hO5 := hO.out.below hb5
          have hW5 := (hb5.block _ (lt_of_heap hW.out)).trans hW.out
          have HO5 := Lib.hid hO5
          have HW5 := Lib.hid hW5
          have HQ5 := Lib.hid ho5
          have HBW5 := Lib.hid (hB.out.trans (hb5.mono hB.out.size))
          have HQ := Lib.hid hq
          have HR0 := Lib.hid hr0
          have HLQ := Lib.hid hLq
          clear ho5 hb5 hO5 hW5 hq hr0 hLq
          go_wp2_with fail
          go_loopw [4, 6, 7] (fun sv rv kv wr => ∃ (k r : Nat) (va : Option Addr) (vc : Nat), k ≤ 9 ∧ kv = .int .i64 (k : Int) ∧ rv = .int .u32 (r : Int) ∧ sv = .slice va (m + k) vc ∧ Hid (r = N % 1000000000 / 10 ^ k) ∧ m + k ≤ D ∧ Hid (wr.owns w.heap.size 5 1 (.slice va (m + k) vc) (m + k) ((decDig n (m + k)).map u8V)) ∧ Hid (wr.owns wo.heap.size 47 1 (.slice a5 Lq c5) Lq ((wd q).map u32V)) ∧ Hid (wr.heap[w.heap.size]? = some (.cells #[.bool neg, .string s] 23)) ∧ Hid (Below w.heap.size w wr)) (fun _ _ kv _ => 9 - (intOf kv).toNat)
          case atStart => exact ⟨0, r0, va, vc, by omega, rfl, rfl, rfl, by show _ = _; rw [Nat.pow_zero, Nat.div_one]; exact HR0.out, hm, HO5.out, HQ5.out, HW5.out, HBW5.out⟩
          case round =>
            obtain ⟨k, r, va2, vc2, hk, rfl, rfl, rfl, hr, hmk, hO2, hQ2, hW2, hB2⟩ := hrel
            have hr32 : r < 1000000000 := by
              rw [hr.out]
              exact Nat.lt_of_le_of_lt (Nat.div_le_self _ _) (Nat.mod_lt _ (by omega))
            by_cases hgo : k < 9 ∧ (0 < r ∨ 0 < Lq)
            · obtain ⟨hk9, hrl⟩ := hgo
              have hd : Hid (dig 10 n (m + k) = r % 10) := by show _ = _; rw [dig_ten n m k hk9, ← HNN.out, ← hr.out]
              have hpos : n / 10 ^ (m + k) ≠ 0 := by
                rw [div_pow_add, ← HNN.out, dec_split N k (by omega), ← hr.out, ← HQ.out]
                rcases hrl with h | h
                · omega
                · have hq0 : q ≠ 0 := by
                    intro h0
                    have := HLQ.out
                    rw [h0] at this
                    have h2 : (wd 0).length = 0 := rfl
                    omega
                  have := Nat.mul_pos (Nat.pos_of_ne_zero hq0) (Nat.pow_pos (show 0 < 10 by omega) (n := 9 - k))
                  omega
              have hmkD : m + k < D := by rw [HD.out]; exact ten_pos hpos
              have hk9' : (k : Int) < 9 := by omega
              obtain ⟨dd, hdd⟩ : ∃ d, d = r % 10 := ⟨_, rfl⟩
              have e1 : (r : Int) % 10 = (dd : Int) := by omega
              obtain ⟨r2, hr2⟩ : ∃ x, x = r / 10 := ⟨_, rfl⟩
              have e2 : (r : Int) / 10 = (r2 : Int) := by omega
              have HR2 : Hid (r2 = N % 1000000000 / 10 ^ (k + 1)) := by show _ = _; rw [hr2, hr.out, Nat.div_div_eq_div_mul, Nat.pow_succ]
              have hdd10 : dd < 10 := by omega
              have e3 : (48 + (dd : Int)) % 256 = ((48 + dd : Nat) : Int) := by omega
              obtain ⟨ch, hch⟩ : ∃ c, c = 48 + dd := ⟨_, rfl⟩
              have e4 : 48 + (dd : Int) = (ch : Int) := by omega
              have e5 : (ch : Int) % 256 = (ch : Int) := by omega
              have HCH : Hid (ch = 48 + dig 10 n (m + k)) := by show _ = _; rw [hd.out, hch, hdd]
              have hszW := hB2.out.size
              clear hpos hdd hr2 hch e3
              by_cases hr0' : 0 < r
              · have hr0'' : (0 : Int) < (r : Int) := by omega
                go_wp2_with (at_builtin; refine app_u8 wr rfl (.tmp 39) (.tmp 44) rfl w.heap.size (.slice va2 (m + k) vc2) (m + k) _ rfl hO2.out (ch : Int) wr.heap.size rfl rfl (by omega) hszW ?_; intro v7 w7 hown7 hg7 hz7; have HO7 := Lib.hid hown7; obtain ⟨g7, q7, rfl⟩ := hown7.succ; have HB7 := Lib.hid (below_grown2 hB2.out hO2.out hg7); have HQ7 := Lib.hid (hQ2.out.keptBy (fun g c fz _ hg => hg7.block g (lt_of_heap hg) (Ne.symm (hO2.out.ne hg (by decide))))); have HW7 := Lib.hid ((hg7.block _ (lt_of_heap hW2.out) (Ne.symm (hO2.out.ne hW2.out (by decide)))).trans hW2.out); clear hown7 hg7)
                go_roundw
                case rel =>
                  refine ⟨k + 1, r2, some ⟨g7, 0, none⟩, q7, by omega, by go_num, rfl, rfl, HR2.out, by omega, ?_, HQ7.out, HW7.out, HB7.out⟩
                  show World.owns _ _ _ _ _ _ _
                  rw [← Nat.add_assoc, decDig_succ, List.map_append, ← HCH.out]
                  exact HO7.out
                case measure => simp [intOf]; omega
              · have hr00 : r = 0 := by omega
                have hch48 : ch = 48 := by omega
                have hr20 : r2 = 0 := by omega
                have hLq0 : 0 < Lq := by omega
                have hLq1 : (0 : Int) < (Lq : Int) := by omega
                clear e1 e2 e4 e5 hdd10 hrl hr0' hr32
                subst hr00 hch48 hr20
                go_wp2_with (at_builtin; refine app_u8 wr rfl (.tmp 39) (.tmp 44) rfl w.heap.size (.slice va2 (m + k) vc2) (m + k) _ rfl hO2.out (48 : Int) wr.heap.size rfl rfl (by omega) hszW ?_; intro v7 w7 hown7 hg7 hz7; have HO7 := Lib.hid hown7; obtain ⟨g7, q7, rfl⟩ := hown7.succ; have HB7 := Lib.hid (below_grown2 hB2.out hO2.out hg7); have HQ7 := Lib.hid (hQ2.out.keptBy (fun g c fz _ hg => hg7.block g (lt_of_heap hg) (Ne.symm (hO2.out.ne hg (by decide))))); have HW7 := Lib.hid ((hg7.block _ (lt_of_heap hW2.out) (Ne.symm (hO2.out.ne hW2.out (by decide)))).trans hW2.out); clear hown7 hg7)
                go_roundw
                case rel =>
                  refine ⟨k + 1, 0, some ⟨g7, 0, none⟩, q7, by omega, by go_num, rfl, rfl, HR2.out, by omega, ?_, HQ7.out, HW7.out, HB7.out⟩
                  show World.owns _ _ _ _ _ _ _
                  rw [← Nat.add_assoc, decDig_succ, List.map_append, ← HCH.out]
                  exact HO7.out
                case measure => simp [intOf]; omega
            · have hend : Hid (n / 10 ^ (m + k) = q) := by
                show _ = _
                rw [div_pow_add, ← HNN.out, dec_split N k hk, ← hr.out, ← HQ.out]
                by_cases hk9 : k < 9
                · have h0 : r = 0 ∧ Lq = 0 := by omega
                  have hq0 : q = 0 := by
                    rcases Nat.eq_zero_or_pos q with h | h
                    · exact h
                    · have := wd_pos (show q ≠ 0 by omega)
                      have := HLQ.out
                      omega
                  rw [h0.1, hq0]; simp
                · have h9 : k = 9 := by omega
                  subst h9
                  have := hr.out
                  rw [Nat.div_eq_of_lt (Nat.mod_lt N (by omega))] at this
                  rw [this]; simp
              have hmlt : Hid (m < m + k) := by
                show _ < _
                rcases Nat.eq_zero_or_pos k with h | h
                · exfalso
                  have h1 := hend.out
                  rw [h, Nat.add_zero, ← HNN.out] at h1
                  have h2 := HQ.out
                  have h3 := HZ.out
                  have : N / 1000000000 < N := Nat.div_lt_self (by omega) (by omega)
                  omega
                · omega
              by_cases hk9 : k < 9
              · have hk9' : (k : Int) < 9 := by omega
                have hr01 : ¬ (0 : Int) < (r : Int) := by omega
                have hLq1 : ¬ (0 : Int) < (Lq : Int) := by omega
                go_wp2_with fail
                go_roundw
                case rel => exact ⟨m + k, Lq, a5, c5, va2, vc2, hmk, rfl, rfl, by show _ = _; rw [hend.out]; exact HLQ.out, by show World.numR _ _ _; rw [hend.out]; exact hQ2.out.reads, hO2.out, hW2.out, hB2.out⟩
                case measure => have := hmlt.out; simp [lenOf]; omega
              · have hk9' : ¬ (k : Int) < 9 := by omega
                go_wp2_with fail
                go_roundw
                case rel => exact ⟨m + k, Lq, a5, c5, va2, vc2, hmk, rfl, rfl, by show _ = _; rw [hend.out]; exact HLQ.out, by show World.numR _ _ _; rw [hend.out]; exact hQ2.out.reads, hO2.out, hW2.out, hB2.out⟩
                case measure => have := hmlt.out; simp [lenOf]; omega
end Go.Proofs.Ytdfklcmiagmgaaa

/- Walks: whether forms are valid, positive, too long. -/
namespace Go.Proofs.Ytdfklcmiagmgaaa
set_option linter.all false
open Go.RowKit Go.Shelf Go.WideNum
/-- Forms in memory. -/
def World.forms (w : World) (g : Nat) (L : List (Bool × ByteArray)) : Prop := ∀ k x, L[k]? = some x → w.cell? ⟨g, 2 * k, none⟩ = some (.bool x.1) ∧ w.cell? ⟨g, 2 * k + 1, none⟩ = some (.string x.2)
set_option maxRecDepth 100000 in
set_option maxHeartbeats 4000000 in
theorem great_any (L : List (Bool × ByteArray)) (g : Nat) (hL : L.length ≤ 10) (hs : ∀ x ∈ L, x.2.size ≤ maxLen) (w : World) (hg : World.forms w g L) :
    Calls Try.prog 10 #[.slice (some ⟨g, 0, none⟩) L.length L.length] w fun e w' => e = .returned (.bool (L.any fun x => decide (300 < x.2.size))) ∧ w = w' := by
  obtain ⟨R, hR⟩ : ∃ R, R = L.any fun x => decide (300 < x.2.size) := ⟨_, rfl⟩
  rw [← hR]
  obtain ⟨n, hn⟩ : ∃ n, n = L.length := ⟨_, rfl⟩
  rw [← hn] at hL ⊢
  have HR := Lib.hid hR
  have HN := Lib.hid hn
  have HG : Hid (World.forms w g L) := hg
  have HS := Lib.hid hs
  clear hR hn hg hs
  go_enter Try.func10, Try.ntmps10
  go_wp2_with fail
  go_loop [3] (fun iv => ∃ k : Nat, k ≤ n ∧ iv = .int .i64 (k : Int) ∧ Hid ((L.take k).any (fun x => decide (300 < x.2.size)) = false)) (fun iv => n - (intOf iv).toNat)
  case atStart => exact ⟨0, Nat.zero_le _, rfl, rfl⟩
  case round =>
    obtain ⟨k, hk, rfl, hT⟩ := hrel
    by_cases hlt : k < n
    · have hx : L[k]? = some (L[k]'(by rw [← HN.out]; exact hlt)) := List.getElem?_eq_getElem _
      obtain ⟨x, ex⟩ : ∃ x, x = L[k]'(by rw [← HN.out]; exact hlt) := ⟨_, rfl⟩
      rw [← ex] at hx
      obtain ⟨c0, c1⟩ := HG.out k x hx
      have hs63 : x.2.size ≤ 9223372036854775807 := HS.out x (List.mem_of_getElem? hx)
      have hts : (L.take (k + 1)).any (fun x => decide (300 < x.2.size)) = ((L.take k).any (fun x => decide (300 < x.2.size)) || decide (300 < x.2.size)) := by
        rw [List.take_add_one, hx, List.any_append]; simp
      have HTS := Lib.hid hts
      have HX := Lib.hid hx
      have ek : ((k : Int) * 2 + 1).toNat = 2 * k + 1 := by omega
      have ek2 : k * 2 + 1 = 2 * k + 1 := by omega
      have ek3 : k * 2 = 2 * k := by omega
      clear hts hx ex
      by_cases h3 : 300 < x.2.size
      · have h3' : (300 : Int) < (x.2.size : Int) := by omega
        have hre : R = true := by
          rw [HR.out]
          exact List.any_eq_true.2 ⟨x, List.mem_of_getElem? HX.out, decide_eq_true h3⟩
        subst hre
        go_wp2
        go_ret
        exact ⟨rfl, rfl⟩
      · have h3' : ¬ (300 : Int) < (x.2.size : Int) := by omega
        go_wp2
        go_round
        case rel => exact ⟨k + 1, by omega, by go_num, by show _ = _; rw [HTS.out, hT.out, decide_eq_false h3]; rfl⟩
        case measure => simp [intOf]; omega
    · obtain rfl : k = n := by omega
      have hre : R = false := by
        rw [HR.out]
        have := hT.out
        rwa [HN.out, List.take_length] at this
      subst hre
      go_wp2
      go_ret
      exact ⟨rfl, rfl⟩
theorem forms_below {w w' : World} {g : Nat} {L : List (Bool × ByteArray)} (h : World.forms w g L) (hg : g < w.heap.size) (hb : Below w.heap.size w w') : World.forms w' g L := fun k x hk =>
  ⟨(hb.cell (p := ⟨g, 2 * k, none⟩) hg).trans (h k x hk).1, (hb.cell (p := ⟨g, 2 * k + 1, none⟩) hg).trans (h k x hk).2⟩
set_option maxRecDepth 100000 in
set_option maxHeartbeats 4000000 in
theorem valid_any (L : List (Bool × ByteArray)) (g : Nat) (hL : L.length ≤ 10) (hs : ∀ x ∈ L, x.2.size ≤ maxLen) (w : World) (hg : World.forms w g L) (hgl : g < w.heap.size) :
    Calls Try.prog 63 #[.slice (some ⟨g, 0, none⟩) L.length L.length] w fun e w' => e = .returned (.bool (L.all fun x => validB x.1 x.2)) ∧ Below w.heap.size w w' := by
  obtain ⟨R, hR⟩ : ∃ R, R = L.all fun x => validB x.1 x.2 := ⟨_, rfl⟩
  rw [← hR]
  obtain ⟨n, hn⟩ : ∃ n, n = L.length := ⟨_, rfl⟩
  rw [← hn] at hL ⊢
  have HR := Lib.hid hR
  have HN := Lib.hid hn
  have HG : Hid (World.forms w g L) := hg
  have HS := Lib.hid hs
  clear hR hn hg hs
  go_enter Try.func63, Try.ntmps63
  go_wp2_with fail
  go_loopw [7] (fun iv wr => ∃ k : Nat, k ≤ n ∧ iv = .int .i64 (k : Int) ∧ Hid ((L.take k).all (fun x => validB x.1 x.2) = true) ∧ Hid (Below w.heap.size w wr)) (fun iv _ => n - (intOf iv).toNat)
  case atStart => exact ⟨0, Nat.zero_le _, rfl, rfl, Below.refl _ _⟩
  case round =>
    obtain ⟨k, hk, rfl, hT, hB⟩ := hrel
    by_cases hlt : k < n
    · have hx : L[k]? = some (L[k]'(by rw [← HN.out]; exact hlt)) := List.getElem?_eq_getElem _
      obtain ⟨x, ex⟩ : ∃ x, x = L[k]'(by rw [← HN.out]; exact hlt) := ⟨_, rfl⟩
      rw [← ex] at hx
      obtain ⟨c0, c1⟩ := forms_below HG.out hgl hB.out k x hx
      have hs63 : x.2.size ≤ maxLen := HS.out x (List.mem_of_getElem? hx)
      have hts : (L.take (k + 1)).all (fun x => validB x.1 x.2) = ((L.take k).all (fun x => validB x.1 x.2) && validB x.1 x.2) := by
        rw [List.take_add_one, hx, List.all_append]; simp
      have HTS := Lib.hid hts
      have HX := Lib.hid hx
      have ek2 : k * 2 + 1 = 2 * k + 1 := by omega
      have ek3 : k * 2 = 2 * k := by omega
      have hszb := hB.out.size
      have HVAL : Hid (∀ W : World, Calls Try.prog 16 #[.agg #[.bool x.1, .string x.2]] W fun e w' => e = .returned (.bool (validB x.1 x.2)) ∧ Below W.heap.size W w') := Valid_wide x.1 x.2 hs63
      clear hts hx ex hs63
      obtain ⟨x1, x2⟩ := x
      dsimp only at c0 c1
      cases hv : validB x1 x2 with
      | false =>
        have hre : R = false := by
          rw [HR.out, Bool.eq_false_iff]
          intro h
          have := List.all_eq_true.1 h _ (List.mem_of_getElem? HX.out)
          rw [hv] at this; cases this
        subst hre
        dsimp only at HVAL
        rw [hv] at HVAL
        clear hv
        go_wp2_with fail
        (with_reducible refine (HVAL.out _).mono ?_)
        rintro e w3 ⟨rfl, hb3⟩
        have HB3 := Lib.hid (hB.out.trans (((Below.refl wr.heap.size wr).alloc (Nat.le_refl _) (.cells #[.bool x1, .string x2] 23)).trans (hb3.mono (by simp)) |>.mono hszb))
        clear hb3
        go_wp2
        go_ret
        exact ⟨rfl, HB3.out⟩
      | true =>
        dsimp only at HVAL HTS
        rw [hv] at HVAL HTS
        clear hv
        go_wp2_with fail
        (with_reducible refine (HVAL.out _).mono ?_)
        rintro e w3 ⟨rfl, hb3⟩
        have HB3 := Lib.hid (hB.out.trans (((Below.refl wr.heap.size wr).alloc (Nat.le_refl _) (.cells #[.bool x1, .string x2] 23)).trans (hb3.mono (by simp)) |>.mono hszb))
        clear hb3
        go_wp2
        go_roundw
        case rel => exact ⟨k + 1, by omega, by go_num, by show _ = _; rw [HTS.out, hT.out]; rfl, HB3.out⟩
        case measure => simp [intOf]; omega
    · obtain rfl : k = n := by omega
      have hre : R = true := by
        rw [HR.out]
        have := hT.out
        rwa [HN.out, List.take_length] at this
      subst hre
      go_wp2
      go_ret
      exact ⟨rfl, hB.out⟩
theorem str_facts (s : ByteArray) (h0 : s.size ≠ 0) : ¬ s = (⟨#[]⟩ : ByteArray) ∧ s.toList.isEmpty = false := by
  refine ⟨fun h => h0 (by rw [h]; rfl), ?_⟩
  rw [ByteArray.toList_eq]
  cases hl : s.data.toList with
  | nil =>
    exfalso
    apply h0
    show s.data.size = 0
    rw [← Array.length_toList, hl]; rfl
  | cons a l => rfl
theorem str_empty (s : ByteArray) (h0 : s.size = 0) : s = ⟨#[]⟩ := by
  apply ByteArray.ext
  exact Array.eq_empty_of_size_eq_zero h0
def posB (neg : Bool) (s : ByteArray) : Bool := validB neg s && (decide (s.size ≠ 0) && !neg)
set_option maxRecDepth 100000 in
set_option maxHeartbeats 4000000 in
theorem positive_any (neg : Bool) (s : ByteArray) (hs : s.size ≤ maxLen) (w : World) :
    Calls Try.prog 70 #[.agg #[.bool neg, .string s]] w fun e w' => e = .returned (.bool (posB neg s)) ∧ Below w.heap.size w w' := by
  have HVAL : Hid (∀ W : World, Calls Try.prog 16 #[.agg #[.bool neg, .string s]] W fun e w' => e = .returned (.bool (validB neg s)) ∧ Below W.heap.size W w') := Valid_wide neg s hs
  obtain ⟨R, hR⟩ : ∃ R, R = posB neg s := ⟨_, rfl⟩
  rw [← hR]
  unfold posB at hR
  have hb0 := (Below.refl w.heap.size w).alloc (Nat.le_refl _) (.cells #[.bool neg, .string s] 23)
  have HB0 := Lib.hid hb0
  clear hb0
  cases hv : validB neg s with
  | false =>
    rw [hv] at HVAL hR
    have hre : R = false := hR
    subst hre
    clear hv hR
    go_enter Try.func70, Try.ntmps70
    go_wp2_with fail
    (with_reducible refine (HVAL.out _).mono ?_)
    rintro e w3 ⟨rfl, hb3⟩
    have HB3 := Lib.hid (HB0.out.trans (hb3.mono (by simp)))
    clear hb3
    go_wp2
    go_ret
    exact ⟨rfl, HB3.out⟩
  | true =>
    rw [hv, Bool.true_and] at hR
    rw [hv] at HVAL
    clear hv
    by_cases h0 : s.size = 0
    · have hre : R = false := by rw [hR, decide_eq_false (by omega)]; rfl
      obtain rfl := str_empty s h0
      subst hre
      clear hR h0
      go_enter Try.func70, Try.ntmps70
      go_wp2_with fail
      (with_reducible refine (HVAL.out _).mono ?_)
      rintro e w3 ⟨rfl, hb3⟩
      obtain ⟨c0, c1, f0⟩ := wide_cells ((hb3.block w.heap.size (by simp)).trans (heap_alloc_new w _))
      have HB3 := Lib.hid (HB0.out.trans (hb3.mono (by simp)))
      clear hb3
      go_wp2
      go_ret
      exact ⟨rfl, HB3.out⟩
    · obtain ⟨hns, hem⟩ := str_facts s h0
      have hre : R = !neg := by rw [hR, decide_eq_true (by omega)]; rfl
      subst hre
      clear hR h0
      go_enter Try.func70, Try.ntmps70
      go_wp2_with fail
      (with_reducible refine (HVAL.out _).mono ?_)
      rintro e w3 ⟨rfl, hb3⟩
      obtain ⟨c0, c1, f0⟩ := wide_cells ((hb3.block w.heap.size (by simp)).trans (heap_alloc_new w _))
      have HB3 := Lib.hid (HB0.out.trans (hb3.mono (by simp)))
      clear hb3
      go_wp2
      go_ret
      exact ⟨rfl, HB3.out⟩
end Go.Proofs.Ytdfklcmiagmgaaa
