/- Walks: numbers of digits. -/
import Derived.Test.YtpcpgmgpkegjlaaGB1
namespace Go.Proofs.Ytpcpgmgpkegjlaa
open Go.RowKit Go.Shelf Go.BigFrame
/-- A cutter in memory: it is in block b, its parameters in block p. -/
def CutterAt (w : World) (b p : Nat) (width : Int) : Prop := w.heap[b]? = some (.cells #[.pointer (some ⟨p, 0, none⟩), .int .i64 width, .int .i64 (partsI width)] 59)
theorem three_cells {w : World} {p : Nat} {v0 v1 v2 : Value} {t : TypeId} {fz : Nat × Nat} (h : w.heap[p]? = some (.cells #[v0, v1, v2] t fz)) :
    w.cell? ⟨p, 0, none⟩ = some v0 ∧ w.cell? ⟨p, 1, none⟩ = some v1 ∧ w.cell? ⟨p, 2, none⟩ = some v2 := by
  refine ⟨?_, ?_, ?_⟩ <;> simp [World.cell?, h]
theorem parts_bound {width : Int} (h1 : 2 ≤ width) (h2 : width ≤ 31) : 1 ≤ partsI width ∧ partsI width ≤ 16 := by
  unfold partsI
  have : width = 2 ∨ width = 3 ∨ width = 4 ∨ width = 5 ∨ width = 6 ∨ width = 7 ∨ width = 8 ∨ width = 9 ∨ width = 10 ∨ width = 11 ∨ width = 12 ∨ width = 13 ∨ width = 14 ∨ width = 15 ∨ width = 16 ∨ width = 17 ∨ width = 18 ∨ width = 19 ∨ width = 20 ∨ width = 21 ∨ width = 22 ∨ width = 23 ∨ width = 24 ∨ width = 25 ∨ width = 26 ∨ width = 27 ∨ width = 28 ∨ width = 29 ∨ width = 30 ∨ width = 31 := by omega
  rcases this with h | h | h | h | h | h | h | h | h | h | h | h | h | h | h | h | h | h | h | h | h | h | h | h | h | h | h | h | h | h <;> subst h <;> decide
set_option maxHeartbeats 2000000 in
theorem level_any (b p : Nat) (width : Int) (N pr pw wt er : Int) (cv : Value) (chain : List Nat) (sp : Nat) (level : Int) (B : Nat) (w : World) (hc : CutterAt w b p width) (hr : w.reads B cv (chain.map u32V))
    (hp : w.heap[p]? = some (.cells #[.int .i64 N, .int .u32 pr, .int .i64 pw, cv, .int .u32 (sp : Int), .int .i64 wt, .int .u32 er] 25)) :
    Calls Try.prog 30 #[.pointer (some ⟨b, 0, none⟩), .int .i64 level] w fun e w' => e = .returned (.bool (levB chain.length level)) ∧ w = w' := by
  unfold CutterAt at hc
  obtain ⟨d0, d1, d2⟩ := three_cells hc
  obtain ⟨c0, c1, c2, c3, c4, c5, c6⟩ := par_cells hp
  clear hp c0 c1 c2 c5 c6 hc
  have hl := hr.le_map
  obtain ⟨a, cap, rfl, -, -, -⟩ := reads_u32 hr
  clear hr
  unfold levB
  obtain ⟨m, hm⟩ : ∃ m, m = chain.length := ⟨_, rfl⟩
  rw [← hm] at c3 hl ⊢
  clear hm
  by_cases h1 : 1 ≤ level
  · have d1 : decide (1 ≤ level) = true := by simpa using h1
    go_enter Try.func30, Try.ntmps30
    go_wp2
    go_ret
    exact ⟨ret_bool (by first | rfl | (rw [d1]; simp)), rfl⟩
  · have d1 : decide (1 ≤ level) = false := by simpa using h1
    go_enter Try.func30, Try.ntmps30
    go_wp2
    go_ret
    exact ⟨ret_bool (by first | rfl | (rw [d1]; simp)), rfl⟩
/-- A weight that there is. -/
def weiB (n : Nat) (width i : Int) : Bool := decide (0 ≤ i) && decide (i < partsI width * (n : Int))
set_option maxHeartbeats 2000000 in
theorem weight_any (b p : Nat) (width : Int) (hw1 : 2 ≤ width) (hw2 : width ≤ 31) (N pr pw wt er : Int) (cv : Value) (chain : List Nat) (hl24 : chain.length ≤ 24) (sp : Nat) (i : Int) (B : Nat) (w : World) (hc : CutterAt w b p width) (hr : w.reads B cv (chain.map u32V))
    (hp : w.heap[p]? = some (.cells #[.int .i64 N, .int .u32 pr, .int .i64 pw, cv, .int .u32 (sp : Int), .int .i64 wt, .int .u32 er] 25)) :
    Calls Try.prog 39 #[.pointer (some ⟨b, 0, none⟩), .int .i64 i] w fun e w' => e = .returned (.bool (weiB chain.length width i)) ∧ ∃ n, w' = w.drewN n := by
  unfold CutterAt at hc
  obtain ⟨d0, d1, d2⟩ := three_cells hc
  obtain ⟨c0, c1, c2, c3, c4, c5, c6⟩ := par_cells hp
  clear hp c0 c1 c2 c5 c6 hc
  obtain ⟨a, cap, rfl, -, -, -⟩ := reads_u32 hr
  clear hr
  have hpb := parts_bound hw1 hw2
  obtain ⟨P, hP⟩ : ∃ P, P = partsI width := ⟨_, rfl⟩
  unfold weiB
  obtain ⟨m, hm⟩ : ∃ m, m = chain.length := ⟨_, rfl⟩
  rw [← hm] at c3 hl24 ⊢
  rw [← hP] at hpb d2 ⊢
  clear hm hP
  have hmul : 0 ≤ P * (m : Int) ∧ P * (m : Int) ≤ 16 * 24 := ⟨Int.mul_nonneg (by omega) (by omega), Int.mul_le_mul hpb.2 (by omega) (by omega) (by omega)⟩
  obtain ⟨h1, h2⟩ := hmul
  have hwr : IntKind.i64.wrap (P * (m : Int)) = P * (m : Int) := IntWalk.i64_in _ (by omega)
  by_cases h1 : 0 ≤ i
  · have d1 : decide (0 ≤ i) = true := by simpa using h1
    go_enter Try.func39, Try.ntmps39
    go_upto_region 1 with (fail)
    go_quiet (fail)
    go_wp2
    go_ret
    exact ⟨ret_bool (by first | rfl | (rw [d1]; simp)), _, rfl⟩
  · have d1 : decide (0 ≤ i) = false := by simpa using h1
    go_enter Try.func39, Try.ntmps39
    go_upto_region 1 with (fail)
    go_quiet (fail)
    go_wp2
    go_ret
    exact ⟨ret_bool (by first | rfl | (rw [d1]; simp)), _, rfl⟩
/-- What 'asked' answers. -/
def AskedPost (mb fit : Bool) (width : Int) (p : Nat) (w : World) (e : Ending) (w' : World) : Prop :=
  (if mb then ∃ b, e = .returned (.tuple #[.pointer (some ⟨b, 0, none⟩), .bool fit]) ∧ w.heap.size ≤ b ∧ CutterAt w' b p width
    else e = .returned (.tuple #[.pointer none, .bool false])) ∧ Below w.heap.size w w'
theorem madeB_parts {N : Int} {chain : List Nat} {sp : Nat} {width : Int} (h : madeB N chain sp width = true) : 2 ≤ width ∧ width ≤ 31 ∧ validB N chain sp = true ∧ coprTo chain chain.length = true := by
  unfold madeB at h
  simp only [Bool.and_eq_true, decide_eq_true_eq] at h
  exact ⟨h.1.1.1, h.1.1.2, h.1.2, h.2⟩
set_option maxRecDepth 100000 in
set_option maxHeartbeats 4000000 in
theorem asked_any (fit : Bool) (F : FuncId) (N pr pw wt er : Int) (cv : Value) (chain : List Nat) (sp : Nat) (width n : Int) (p : Nat) (w : World) (hr : w.reads w.heap.size cv (chain.map u32V)) (hcb : ∀ q ∈ chain, q < 4294967296)
    (hp : w.heap[p]? = some (.cells #[.int .i64 N, .int .u32 pr, .int .i64 pw, cv, .int .u32 (sp : Int), .int .i64 wt, .int .u32 er] 25))
    (heF : ∀ args W, (callFunc F args).run Try.prog W = .ok (.enter F args) W)
    (hF : ∀ (b : Nat) (W : World), madeB N chain sp width = true → CutterAt W b p width → Below w.heap.size w W → Calls Try.prog F #[.pointer (some ⟨b, 0, none⟩), .int .i64 n] W fun e w' => e = .returned (.bool fit) ∧ ∃ k, w' = W.drewN k) :
    Calls Try.prog 29 #[.pointer (some ⟨p, 0, none⟩), .int .i64 width, .int .i64 n, .func (.func F) #[] #[]] w (AskedPost (madeB N chain sp width) fit width p w) := by
  have HM := Lib.hid (made_any N pr pw wt er cv chain sp width p w hr hcb hp)
  have HF := Lib.hid hF
  have HE := Lib.hid heF
  clear hr hcb hp hF heF
  obtain ⟨mb, hmb⟩ : ∃ mb, mb = madeB N chain sp width := ⟨_, rfl⟩
  unfold MadePost at HM
  rw [← hmb] at HM ⊢
  have HMB := Lib.hid hmb
  clear hmb
  have hpost : ∀ e w', ((if mb then ∃ b, e = .returned (.tuple #[.pointer (some ⟨b, 0, none⟩), .bool fit]) ∧ w.heap.size ≤ b ∧ CutterAt w' b p width
    else e = .returned (.tuple #[.pointer none, .bool false])) ∧ Below w.heap.size w w') → AskedPost mb fit width p w e w' := fun e w' h => h
  have HPOST := Lib.hid hpost
  clear hpost
  cases mb
  · go_enter Try.func29, Try.ntmps29
    go_wp2_with fail
    refine HM.out.mono ?_
    rintro e w1 ⟨h, hb⟩
    obtain rfl : e = _ := h
    go_wp2
    go_ret2
    exact HPOST.out _ _ ⟨rfl, hb⟩
  · have hcf := HE.out
    go_enter Try.func29, Try.ntmps29
    go_wp2_with fail
    refine HM.out.mono ?_
    rintro e w1 ⟨h, hb⟩
    rw [if_pos trivial] at h
    obtain ⟨b, rfl, hwb, hcut⟩ := h
    have HC := Lib.hid hcut
    clear hcut
    go_wp2_with fail
    refine (HF.out b w1 HMB.out.symm HC.out hb).mono ?_
    rintro e w2 ⟨rfl, k, rfl⟩
    go_wp2
    go_ret2
    refine HPOST.out _ _ ⟨?_, below_drewN hb k⟩
    rw [if_pos trivial]
    exact ⟨b, rfl, hwb, HC.out⟩
theorem asked_level (N pr pw wt er : Int) (cv : Value) (chain : List Nat) (sp : Nat) (width n : Int) (p : Nat) (w : World) (hr : w.reads w.heap.size cv (chain.map u32V)) (hcb : ∀ q ∈ chain, q < 4294967296)
    (hp : w.heap[p]? = some (.cells #[.int .i64 N, .int .u32 pr, .int .i64 pw, cv, .int .u32 (sp : Int), .int .i64 wt, .int .u32 er] 25)) :
    Calls Try.prog 29 #[.pointer (some ⟨p, 0, none⟩), .int .i64 width, .int .i64 n, .func (.func 30) #[] #[]] w (AskedPost (madeB N chain sp width) (levB chain.length n) width p w) :=
  asked_any _ _ N pr pw wt er cv chain sp width n p w hr hcb hp (enters_of Try.func30 (by kernel_rfl) rfl) fun b W _ hc hB =>
    (level_any b p width N pr pw wt er cv chain sp n _ W hc (hr.below hB) ((hB.block p (lt_of_heap hp)).trans hp)).mono fun e w' ⟨he, hw⟩ => ⟨he, 0, by rw [← hw]; rfl⟩
theorem asked_weight (N pr pw wt er : Int) (cv : Value) (chain : List Nat) (sp : Nat) (width n : Int) (p : Nat) (w : World) (hr : w.reads w.heap.size cv (chain.map u32V)) (hcb : ∀ q ∈ chain, q < 4294967296)
    (hp : w.heap[p]? = some (.cells #[.int .i64 N, .int .u32 pr, .int .i64 pw, cv, .int .u32 (sp : Int), .int .i64 wt, .int .u32 er] 25)) :
    Calls Try.prog 29 #[.pointer (some ⟨p, 0, none⟩), .int .i64 width, .int .i64 n, .func (.func 39) #[] #[]] w (AskedPost (madeB N chain sp width) (weiB chain.length width n) width p w) :=
  asked_any _ _ N pr pw wt er cv chain sp width n p w hr hcb hp (enters_of Try.func39 (by kernel_rfl) rfl) fun b W hm hc hB =>
    weight_any b p width (madeB_parts hm).1 (madeB_parts hm).2.1 N pr pw wt er cv chain (validB_len (madeB_parts hm).2.2.1).2 sp n _ W hc (hr.below hB) ((hB.block p (lt_of_heap hp)).trans hp)
end Go.Proofs.Ytpcpgmgpkegjlaa
