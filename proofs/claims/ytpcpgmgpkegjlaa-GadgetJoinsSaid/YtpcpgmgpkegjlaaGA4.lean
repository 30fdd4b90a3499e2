/- Walks: levels, places, lists. -/
import Derived.Test.YtpcpgmgpkegjlaaGA3
namespace Go.Proofs.Ytpcpgmgpkegjlaa
open Go.RowKit
/-- A level that there is. -/
def levB (n : Nat) (level : Int) : Bool := decide (1 ≤ level) && decide (level ≤ (n : Int))
def placeB (chain : List Nat) (sp : Nat) (level : Int) (special : Bool) : Bool := levB chain.length level && (!special || sp != 0)
set_option maxHeartbeats 2000000 in
theorem place_any (N pr pw wt er : Int) (cv : Value) (chain : List Nat) (sp : Nat) (level : Int) (special : Bool) (B p : Nat) (w : World) (hr : w.reads B cv (chain.map u32V))
    (hp : w.heap[p]? = some (.cells #[.int .i64 N, .int .u32 pr, .int .i64 pw, cv, .int .u32 (sp : Int), .int .i64 wt, .int .u32 er] 25)) :
    Calls Try.prog 48 #[.pointer (some ⟨p, 0, none⟩), .int .i64 level, .bool special] w fun e w' => e = .returned (.bool (placeB chain sp level special)) ∧ w = w' := by
  obtain ⟨c0, c1, c2, c3, c4, c5, c6⟩ := par_cells hp
  clear hp c0 c1 c2 c5 c6
  have hl := hr.le_map
  obtain ⟨a, cap, rfl, -, -, -⟩ := reads_u32 hr
  clear hr
  obtain ⟨r, hr⟩ : ∃ r, r = placeB chain sp level special := ⟨_, rfl⟩
  rw [← hr]
  unfold placeB levB at hr
  have HR := Lib.hid hr
  clear hr
  obtain ⟨m, hm⟩ : ∃ m, m = chain.length := ⟨_, rfl⟩
  rw [← hm] at HR c3 hl
  clear hm
  by_cases h1 : 1 ≤ level
  · have d1 : decide (1 ≤ level) = true := by simpa using h1
    by_cases h2 : level ≤ (m : Int)
    · have d2 : decide (level ≤ (m : Int)) = true := by simpa using h2
      cases special
      · obtain rfl : r = true := by rw [HR.out]; simp [h1, h2]
        go_enter Try.func48, Try.ntmps48
        go_wp2
        go_ret
        exact ⟨rfl, rfl⟩
      · by_cases h3 : sp = 0
        · obtain rfl : r = false := by rw [HR.out]; simp [h3]
          have hb : ((sp : Int) != 0) = false := by rw [h3]; rfl
          clear h3
          go_enter Try.func48, Try.ntmps48
          go_wp2
          go_ret
          exact ⟨rfl, rfl⟩
        · obtain rfl : r = true := by rw [HR.out]; simp [h1, h2, h3]
          have hb : ((sp : Int) != 0) = true := by rw [bne_iff_ne]; omega
          clear h3
          go_enter Try.func48, Try.ntmps48
          go_wp2
          go_ret
          exact ⟨rfl, rfl⟩
    · obtain rfl : r = false := by rw [HR.out]; simp [h2]
      have d2 : decide (level ≤ (m : Int)) = false := by simpa using h2
      go_enter Try.func48, Try.ntmps48
      go_wp2
      go_ret
      exact ⟨rfl, rfl⟩
  · obtain rfl : r = false := by rw [HR.out]; simp [h1]
    have d1 : decide (1 ≤ level) = false := by simpa using h1
    go_enter Try.func48, Try.ntmps48
    go_wp2
    go_ret
    exact ⟨rfl, rfl⟩
set_option maxHeartbeats 2000000 in
theorem lt1_any (x q : Nat) (c : Nat) (w : World) (hc : w.cell? ⟨c, 0, none⟩ = some (.int .u32 (q : Int))) :
    Calls Try.prog 51 #[.int .u32 (x : Int), .pointer (some ⟨c, 0, none⟩)] w fun e w' => e = .returned (.bool (decide (q ≤ x))) ∧ w = w' := by
  go_enter Try.func51, Try.ntmps51
  go_wp2
  go_ret
  exact ⟨ret_bool (by rw [Bool.eq_iff_iff]), rfl⟩
def anyGe (q : Nat) (xs : List Nat) : Bool := xs.any fun x => decide (q ≤ x)
set_option maxHeartbeats 2000000 in
theorem IndexFunc_lt (q c : Nat) (v : Value) (xs : List Nat) (B : Nat) (w : World) (hr : w.reads B v (xs.map u32V)) (hc : w.cell? ⟨c, 0, none⟩ = some (.int .u32 (q : Int))) :
    Calls Try.prog 59 #[v, .func (.func 51) #[] #[.pointer (some ⟨c, 0, none⟩)]] w fun e w' => (∃ i : Int, e = .returned (.int .i64 i) ∧ decide (0 ≤ i) = anyGe q xs) ∧ w = w' := by
  have HL := Lib.hid (fun x => lt1_any x q c w hc)
  have hl := hr.le_map
  obtain ⟨a, cap, rfl, -, -, hsh⟩ := reads_u32 hr
  have HS := Lib.hid hsh
  clear hsh hr hc
  go_enter Try.func59, Try.ntmps59
  go_wp2
  go_loop [8] (fun i => ∃ k : Nat, k ≤ xs.length ∧ i = .int .i64 (k : Int) ∧ Hid (anyGe q (xs.take k) = false)) (fun i => xs.length - (intOf i).toNat)
  case atStart => exact ⟨0, Nat.zero_le _, rfl, by show _ = _; simp [anyGe]⟩
  case round =>
    obtain ⟨k, hk, rfl, hall⟩ := hrel
    by_cases hlt : k < xs.length
    · obtain ⟨y, hx⟩ : ∃ x, xs[k]? = some x := ⟨xs[k], List.getElem?_eq_getElem hlt⟩
      obtain ⟨b, off, rfl, _, hc⟩ := HS.out k y hx
      have HX := Lib.hid hx
      clear hx
      have HL1 := Lib.hid (HL.out y)
      by_cases hxn : q ≤ y
      · have hd : decide (q ≤ y) = true := by simpa using hxn
        rw [hd] at HL1
        clear hd
        go_wp2_with (go_at_call 51; refine HL1.out.mono ?_; rintro e w2 ⟨rfl, rfl⟩)
        go_ret
        exact ⟨⟨_, rfl, by simp [anyGe]; exact ⟨y, List.mem_of_getElem? HX.out, hxn⟩⟩, rfl⟩
      · have hd : decide (q ≤ y) = false := by simpa using hxn
        rw [hd] at HL1
        clear hd
        go_wp2_with (go_at_call 51; refine HL1.out.mono ?_; rintro e w2 ⟨rfl, rfl⟩)
        go_round
        case rel =>
          refine ⟨k + 1, by omega, by go_num, ?_⟩
          show _ = _
          have := hall.out
          unfold anyGe at *
          rw [List.take_add_one, HX.out]
          simp only [Option.toList_some, List.any_append, this, Bool.false_or]
          simpa using hxn
        case measure => simp [intOf]; omega
    · obtain rfl : k = xs.length := by omega
      have h2 := hall.out
      rw [List.take_length] at h2
      have HH := Lib.hid h2
      clear h2 hall
      go_wp2
      go_ret
      exact ⟨⟨-1, rfl, by rw [HH.out]; rfl⟩, rfl⟩
set_option maxHeartbeats 1000000 in
theorem ContainsFunc_lt (q c : Nat) (v : Value) (xs : List Nat) (B : Nat) (w : World) (hr : w.reads B v (xs.map u32V)) (hc : w.cell? ⟨c, 0, none⟩ = some (.int .u32 (q : Int))) :
    Calls Try.prog 50 #[v, .func (.func 51) #[] #[.pointer (some ⟨c, 0, none⟩)]] w fun e w' => e = .returned (.bool (anyGe q xs)) ∧ w = w' := by
  have HI := Lib.hid (IndexFunc_lt q c v xs B w hr hc)
  clear hr hc
  go_enter Try.func50, Try.ntmps50
  go_wp2_with fail
  refine HI.out.mono ?_
  rintro e w1 ⟨⟨i, rfl, hi⟩, rfl⟩
  have H := Lib.hid hi
  clear hi HI
  go_wp2
  go_ret
  exact ⟨ret_bool H.out, rfl⟩
end Go.Proofs.Ytpcpgmgpkegjlaa
