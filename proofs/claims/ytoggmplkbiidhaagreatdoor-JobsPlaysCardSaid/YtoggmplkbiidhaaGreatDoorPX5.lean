/- Helpers and walks, in one text. -/
import Derived.Test.YtoggmplkbiidhaaGreatDoorPX4
import Derived.Laws.StructEq
import Derived.ProofKit
import Derived.OpenShut
import Derived.ShutString
import Derived.ChangeOld
import Derived.SliceStrings
import Derived.Deep.Matrix
set_option linter.all false
set_option maxRecDepth 100000
set_option maxHeartbeats 40000000
/- Walks: the reference's queue of jobs: the job to be taken. Printed by gen_rda.py. -/
namespace Go.Proofs.YtoggmplkbiidhaaGreatDoor
section
open Go.RowKit Go.Shelf
theorem rffirst_any (P : RQP) (v : Value) (x : Qst) (w : World) (h : RQD P v x w) :
  Calls Tryz.prog 69 #[.pointer (some ⟨P.p, 0, none⟩)] w fun e w' => e = .returned (.int .i64 (bestI (bestF x.q.jobs 0 none))) ∧ Below w.heap.size w w' := by
 have hlen := h.fine.ok.len
 have HQ := Lib.hid h
 obtain ⟨va, vc, rfl⟩ : ∃ a c, v = .slice a x.q.jobs.length c := by
  rcases h.ja.2 with ⟨e, h0⟩ | ⟨g, c, _, _, e, _⟩
  ·exact ⟨none, 0, by rw [e, h0]⟩
  ·exact ⟨_, c, e⟩
 obtain ⟨n, hn⟩ : ∃ n, n = x.q.jobs.length := ⟨_, rfl⟩
 have HN := Lib.hid hn
 rw [← hn] at hlen
 clear hn h
 go_enter Tryz.func69, Tryz.ntmps69
 go_wp2_with fail
 go_loopw [3, 4] (fun bb ii wr => ∃ k : Nat, k ≤ n ∧ ii = .int .i64 (k : Int) ∧ bb = .int .i64 (bestI (bestF (x.q.jobs.take k) 0 none)) ∧ Hid (Below w.heap.size w wr)) (fun _ ii _ => n - (intOf ii).toNat)
 case atStart => exact ⟨0, Nat.zero_le _, rfl, rfl, Below.refl _ _⟩
 case round =>
  obtain ⟨k, hk, rfl, rfl, hB⟩ := hrel
  have hQ := HQ.out.below hB.out
  obtain ⟨-, y1, -⟩ := hQ.qa.cells
  rw [← HN.out] at y1
  by_cases hlt : k < n
  ·obtain ⟨j, hj⟩ : ∃ j, x.q.jobs[k]? = some j := ⟨_, List.getElem?_eq_getElem (by rw [← HN.out]; exact hlt)⟩
   obtain ⟨g, cap', hgc, hgl, -⟩ := JobsAt.cells (w := wr) hQ.ja k j hj
   injection hgc with ha hnn hcc
   clear hnn hcc
   subst ha
   have d3 : wr.cell? ⟨g, k * 9 + 3, none⟩ = some (.int .i64 j.prio) := (job_cell hQ.ja hj (by omega : 3 < 9) rfl).1
   have d4 : wr.cell? ⟨g, k * 9 + 4, none⟩ = some (.int .i64 j.state) := (job_cell hQ.ja hj (by omega : 4 < 9) rfl).1
   have d5 : wr.cell? ⟨g, k * 9 + 5, none⟩ = some (.int .i64 j.tries) := (job_cell hQ.ja hj (by omega : 5 < 9) rfl).1
   have HBT := Lib.hid (bestF_take x.q.jobs k j hj)
   have hbo := best_ok (x.q.jobs.take k)
   have hpre : ∀ m y, (x.q.jobs.take k)[m]? = some y → x.q.jobs[m]? = some y ∧ m < k := fun m y hy => by
    rw [List.getElem?_take] at hy
    split at hy
    ·exact ⟨hy, by assumption⟩
    ·cases hy
   obtain ⟨B, hB2⟩ : ∃ B, B = bestF (x.q.jobs.take k) 0 none := ⟨_, rfl⟩
   rw [← hB2] at hbo HBT ⊢
   have HQW := Lib.hid hQ
   have HPRE := Lib.hid hpre
   have HBD : Hid (Below w.heap.size w wr.drew) := hB.out.trans ((Below.refl _ wr).drew.mono hB.out.size)
   clear hB2 hj hpre hQ
   go_upto_region 5 with (fail)
   by_cases hs1 : j.state = 1
   case neg =>
    have e1 : ((j.state : Int) == 1) = false := by rw [beq_eq_false_iff_ne]; omega
    refine wp_region_heldL (fun w' => w'.cell? ⟨P.p, 1, none⟩ = some (.slice (some ⟨g, 0, none⟩) n vc) ∧ w'.cell? ⟨g, k * 9 + 3, none⟩ = some (.int .i64 j.prio) ∧ w'.cell? ⟨g, k * 9 + 4, none⟩ = some (.int .i64 j.state) ∧ w'.cell? ⟨g, k * 9 + 5, none⟩ = some (.int .i64 j.tries)) (by kernel_rfl) ⟨y1, d3, d4, d5⟩ (fun hHeld => ?_)
    clear d3 d4 d5 y1
    refine tkH 0 (v := ?_) rfl ?_ ?_
    rotate_left
    ·(intro wq hSq; (try dsimp only at hSq); go_simp; try with_reducible rfl)
    try simp only [q0P, q0Q, q0R, q0S]
    refine tkH 1 (v := ?_) rfl ?_ ?_
    rotate_left
    ·(intro wq hSq; (try dsimp only at hSq); go_simp; try with_reducible rfl)
    try simp only [q0P, q0Q, q0R, q0S]
    refine tkH 2 (v := ?_) rfl ?_ ?_
    rotate_left
    ·(intro wq hSq; (try dsimp only at hSq); go_simp; try with_reducible rfl)
    try simp only [q0P, q0Q, q0R, q0S]
    refine tkH 3 (v := ?_) rfl ?_ ?_
    rotate_left
    ·(intro wq hSq; (try dsimp only at hSq); go_simp; try with_reducible rfl)
    try simp only [q0P, q0Q, q0R, q0S]
    refine tkH 4 (v := ?_) rfl ?_ ?_
    rotate_left
    ·(intro wq hSq; (try dsimp only at hSq); go_simp; try with_reducible rfl)
    try simp only [q0P, q0Q, q0R, q0S]
    refine tkH 5 (v := ?_) rfl ?_ ?_
    rotate_left
    ·(intro wq hSq; (try dsimp only at hSq); go_simp; try with_reducible rfl)
    try simp only [q0P, q0Q, q0R, q0S]
    refine tkH 6 (v := ?_) rfl ?_ ?_
    rotate_left
    ·(intro wq hSq; (try dsimp only at hSq); go_simp; try with_reducible rfl)
    try simp only [q0P, q0Q, q0R, q0S]
    refine tkH 7 (v := ?_) rfl ?_ ?_
    rotate_left
    ·(intro wq hSq; (try dsimp only at hSq); go_simp; try with_reducible rfl)
    try simp only [q0P, q0Q, q0R, q0S]
    refine tkH 8 (v := ?_) rfl ?_ ?_
    rotate_left
    ·(intro wq hSq; (try dsimp only at hSq); go_simp; try with_reducible rfl)
    try simp only [q0P, q0Q, q0R, q0S]
    refine tkH 9 (v := ?_) rfl ?_ ?_
    rotate_left
    ·(intro wq hSq; (try dsimp only at hSq); go_simp; try with_reducible rfl)
    try simp only [q0P, q0Q, q0R, q0S]
    refine tkS 10 rfl ?_
    try simp only [q0P, q0Q, q0R, q0S]
    refine tkS 11 rfl ?_
    try simp only [q0P, q0Q, q0R, q0S]
    refine tkS 12 rfl ?_
    try simp only [q0P, q0Q, q0R, q0S]
    refine tkS 13 rfl ?_
    try simp only [q0P, q0Q, q0R, q0S]
    refine tkS 14 rfl ?_
    try simp only [q0P, q0Q, q0R, q0S]
    refine tkS 15 rfl ?_
    try simp only [q0P, q0Q, q0R, q0S]
    refine tkS 16 rfl ?_
    try simp only [q0P, q0Q, q0R, q0S]
    refine tkS 17 rfl ?_
    try simp only [q0P, q0Q, q0R, q0S]
    refine tkS 18 rfl ?_
    try simp only [q0P, q0Q, q0R, q0S]
    refine tkH 19 (v := ?_) rfl ?_ ?_
    rotate_left
    ·(intro wq hSq; (try dsimp only at hSq); go_simp; try with_reducible rfl)
    try simp only [q0P, q0Q, q0R, q0S]
    refine tkH 20 (v := ?_) rfl ?_ ?_
    rotate_left
    ·(intro wq hSq; (try dsimp only at hSq); go_simp; try with_reducible rfl)
    try simp only [q0P, q0Q, q0R, q0S]
    refine tkS 21 rfl ?_
    try simp only [q0P, q0Q, q0R, q0S]
    refine tkS 22 rfl ?_
    try simp only [q0P, q0Q, q0R, q0S]
    refine tkS 23 rfl ?_
    try simp only [q0P, q0Q, q0R, q0S]
    refine tkS 24 rfl ?_
    try simp only [q0P, q0Q, q0R, q0S]
    refine tkS 25 rfl ?_
    try simp only [q0P, q0Q, q0R, q0S]
    refine tkS 26 rfl ?_
    try simp only [q0P, q0Q, q0R, q0S]
    refine tkS 27 rfl ?_
    try simp only [q0P, q0Q, q0R, q0S]
    refine tkS 28 rfl ?_
    try simp only [q0P, q0Q, q0R, q0S]
    refine tkS 29 rfl ?_
    try simp only [q0P, q0Q, q0R, q0S]
    refine tkS 30 rfl ?_
    try simp only [q0P, q0Q, q0R, q0S]
    refine tkS 31 rfl ?_
    try simp only [q0P, q0Q, q0R, q0S]
    refine tkS 32 rfl ?_
    try simp only [q0P, q0Q, q0R, q0S]
    refine tkS 33 rfl ?_
    try simp only [q0P, q0Q, q0R, q0S]
    refine tkS 34 rfl ?_
    try simp only [q0P, q0Q, q0R, q0S]
    refine tkS 35 rfl ?_
    try simp only [q0P, q0Q, q0R, q0S]
    refine tkS 36 rfl ?_
    try simp only [q0P, q0Q, q0R, q0S]
    refine tkS 37 rfl ?_
    try simp only [q0P, q0Q, q0R, q0S]
    refine tkS 38 rfl ?_
    try simp only [q0P, q0Q, q0R, q0S]
    refine tkS 39 rfl ?_
    try simp only [q0P, q0Q, q0R, q0S]
    refine tkS 40 rfl ?_
    try simp only [q0P, q0Q, q0R, q0S]
    refine tkS 41 rfl ?_
    try simp only [q0P, q0Q, q0R, q0S]
    refine tkH 42 (v := ?_) rfl ?_ ?_
    rotate_left
    ·(intro wq hSq; (try dsimp only at hSq); go_simp; try with_reducible rfl)
    try simp only [q0P, q0Q, q0R, q0S]
    refine wpAnyH_end (by kernel_rfl) ?_
    go_wp2_with fail
    go_roundw
    case rel => exact ⟨k + 1, by omega, by go_num, by rw [HBT.out]; unfold stepF; rw [if_neg (by rintro ⟨q, -⟩; exact hs1 q)], HBD.out⟩
    case measure => simp [intOf]; omega
   have e1 : ((j.state : Int) == 1) = true := by rw [hs1]; rfl
   by_cases ht8 : j.tries < 8
   case neg =>
    have e2 : ¬ (j.tries : Int) < 8 := by omega
    refine wp_region_heldL (fun w' => w'.cell? ⟨P.p, 1, none⟩ = some (.slice (some ⟨g, 0, none⟩) n vc) ∧ w'.cell? ⟨g, k * 9 + 3, none⟩ = some (.int .i64 j.prio) ∧ w'.cell? ⟨g, k * 9 + 4, none⟩ = some (.int .i64 j.state) ∧ w'.cell? ⟨g, k * 9 + 5, none⟩ = some (.int .i64 j.tries)) (by kernel_rfl) ⟨y1, d3, d4, d5⟩ (fun hHeld => ?_)
    clear d3 d4 d5 y1
    refine tkH 0 (v := ?_) rfl ?_ ?_
    rotate_left
    ·(intro wq hSq; (try dsimp only at hSq); go_simp; try with_reducible rfl)
    try simp only [q0P, q0Q, q0R, q0S]
    refine tkH 1 (v := ?_) rfl ?_ ?_
    rotate_left
    ·(intro wq hSq; (try dsimp only at hSq); go_simp; try with_reducible rfl)
    try simp only [q0P, q0Q, q0R, q0S]
    refine tkH 2 (v := ?_) rfl ?_ ?_
    rotate_left
    ·(intro wq hSq; (try dsimp only at hSq); go_simp; try with_reducible rfl)
    try simp only [q0P, q0Q, q0R, q0S]
    refine tkH 3 (v := ?_) rfl ?_ ?_
    rotate_left
    ·(intro wq hSq; (try dsimp only at hSq); go_simp; try with_reducible rfl)
    try simp only [q0P, q0Q, q0R, q0S]
    refine tkH 4 (v := ?_) rfl ?_ ?_
    rotate_left
    ·(intro wq hSq; (try dsimp only at hSq); go_simp; try with_reducible rfl)
    try simp only [q0P, q0Q, q0R, q0S]
    refine tkH 5 (v := ?_) rfl ?_ ?_
    rotate_left
    ·(intro wq hSq; (try dsimp only at hSq); go_simp; try with_reducible rfl)
    try simp only [q0P, q0Q, q0R, q0S]
    refine tkH 6 (v := ?_) rfl ?_ ?_
    rotate_left
    ·(intro wq hSq; (try dsimp only at hSq); go_simp; try with_reducible rfl)
    try simp only [q0P, q0Q, q0R, q0S]
    refine tkH 7 (v := ?_) rfl ?_ ?_
    rotate_left
    ·(intro wq hSq; (try dsimp only at hSq); go_simp; try with_reducible rfl)
    try simp only [q0P, q0Q, q0R, q0S]
    refine tkH 8 (v := ?_) rfl ?_ ?_
    rotate_left
    ·(intro wq hSq; (try dsimp only at hSq); go_simp; try with_reducible rfl)
    try simp only [q0P, q0Q, q0R, q0S]
    refine tkH 9 (v := ?_) rfl ?_ ?_
    rotate_left
    ·(intro wq hSq; (try dsimp only at hSq); go_simp; try with_reducible rfl)
    try simp only [q0P, q0Q, q0R, q0S]
    refine tkH 10 (v := ?_) rfl ?_ ?_
    rotate_left
    ·(intro wq hSq; (try dsimp only at hSq); go_simp; try with_reducible rfl)
    try simp only [q0P, q0Q, q0R, q0S]
    refine tkH 11 (v := ?_) rfl ?_ ?_
    rotate_left
    ·(intro wq hSq; (try dsimp only at hSq); go_simp; try with_reducible rfl)
    try simp only [q0P, q0Q, q0R, q0S]
    refine tkH 12 (v := ?_) rfl ?_ ?_
    rotate_left
    ·(intro wq hSq; (try dsimp only at hSq); go_simp; try with_reducible rfl)
    try simp only [q0P, q0Q, q0R, q0S]
    refine tkH 13 (v := ?_) rfl ?_ ?_
    rotate_left
    ·(intro wq hSq; (try dsimp only at hSq); go_simp; try with_reducible rfl)
    try simp only [q0P, q0Q, q0R, q0S]
    refine tkH 14 (v := ?_) rfl ?_ ?_
    rotate_left
    ·(intro wq hSq; (try dsimp only at hSq); go_simp; try with_reducible rfl)
    try simp only [q0P, q0Q, q0R, q0S]
    refine tkH 15 (v := ?_) rfl ?_ ?_
    rotate_left
    ·(intro wq hSq; (try dsimp only at hSq); go_simp; try with_reducible rfl)
    try simp only [q0P, q0Q, q0R, q0S]
    refine tkH 16 (v := ?_) rfl ?_ ?_
    rotate_left
    ·(intro wq hSq; (try dsimp only at hSq); go_simp; try with_reducible rfl)
    try simp only [q0P, q0Q, q0R, q0S]
    refine tkH 17 (v := ?_) rfl ?_ ?_
    rotate_left
    ·(intro wq hSq; (try dsimp only at hSq); go_simp; try with_reducible rfl)
    try simp only [q0P, q0Q, q0R, q0S]
    refine tkH 18 (v := ?_) rfl ?_ ?_
    rotate_left
    ·(intro wq hSq; (try dsimp only at hSq); go_simp; try with_reducible rfl)
    try simp only [q0P, q0Q, q0R, q0S]
    refine tkH 19 (v := ?_) rfl ?_ ?_
    rotate_left
    ·(intro wq hSq; (try dsimp only at hSq); go_simp; try with_reducible rfl)
    try simp only [q0P, q0Q, q0R, q0S]
    refine tkH 20 (v := ?_) rfl ?_ ?_
    rotate_left
    ·(intro wq hSq; (try dsimp only at hSq); go_simp; try with_reducible rfl)
    try simp only [q0P, q0Q, q0R, q0S]
    refine tkS 21 rfl ?_
    try simp only [q0P, q0Q, q0R, q0S]
    refine tkS 22 rfl ?_
    try simp only [q0P, q0Q, q0R, q0S]
    refine tkS 23 rfl ?_
    try simp only [q0P, q0Q, q0R, q0S]
    refine tkS 24 rfl ?_
    try simp only [q0P, q0Q, q0R, q0S]
    refine tkS 25 rfl ?_
    try simp only [q0P, q0Q, q0R, q0S]
    refine tkS 26 rfl ?_
    try simp only [q0P, q0Q, q0R, q0S]
    refine tkS 27 rfl ?_
    try simp only [q0P, q0Q, q0R, q0S]
    refine tkS 28 rfl ?_
    try simp only [q0P, q0Q, q0R, q0S]
    refine tkS 29 rfl ?_
    try simp only [q0P, q0Q, q0R, q0S]
    refine tkS 30 rfl ?_
    try simp only [q0P, q0Q, q0R, q0S]
    refine tkS 31 rfl ?_
    try simp only [q0P, q0Q, q0R, q0S]
    refine tkS 32 rfl ?_
    try simp only [q0P, q0Q, q0R, q0S]
    refine tkS 33 rfl ?_
    try simp only [q0P, q0Q, q0R, q0S]
    refine tkS 34 rfl ?_
    try simp only [q0P, q0Q, q0R, q0S]
    refine tkS 35 rfl ?_
    try simp only [q0P, q0Q, q0R, q0S]
    refine tkS 36 rfl ?_
    try simp only [q0P, q0Q, q0R, q0S]
    refine tkS 37 rfl ?_
    try simp only [q0P, q0Q, q0R, q0S]
    refine tkS 38 rfl ?_
    try simp only [q0P, q0Q, q0R, q0S]
    refine tkS 39 rfl ?_
    try simp only [q0P, q0Q, q0R, q0S]
    refine tkS 40 rfl ?_
    try simp only [q0P, q0Q, q0R, q0S]
    refine tkS 41 rfl ?_
    try simp only [q0P, q0Q, q0R, q0S]
    refine tkH 42 (v := ?_) rfl ?_ ?_
    rotate_left
    ·(intro wq hSq; (try dsimp only at hSq); go_simp; try with_reducible rfl)
    try simp only [q0P, q0Q, q0R, q0S]
    refine wpAnyH_end (by kernel_rfl) ?_
    go_wp2_with fail
    go_roundw
    case rel => exact ⟨k + 1, by omega, by go_num, by rw [HBT.out]; unfold stepF; rw [if_neg (by rintro ⟨-, q, -⟩; exact ht8 q)], HBD.out⟩
    case measure => simp [intOf]; omega
   have e2 : (j.tries : Int) < 8 := by omega
   cases B with
   | none =>
    rw [show bestI none = -1 from rfl]
    refine wp_region_heldL (fun w' => w'.cell? ⟨P.p, 1, none⟩ = some (.slice (some ⟨g, 0, none⟩) n vc) ∧ w'.cell? ⟨g, k * 9 + 3, none⟩ = some (.int .i64 j.prio) ∧ w'.cell? ⟨g, k * 9 + 4, none⟩ = some (.int .i64 j.state) ∧ w'.cell? ⟨g, k * 9 + 5, none⟩ = some (.int .i64 j.tries)) (by kernel_rfl) ⟨y1, d3, d4, d5⟩ (fun hHeld => ?_)
    clear d3 d4 d5 y1
    refine tkH 0 (v := ?_) rfl ?_ ?_
    rotate_left
    ·(intro wq hSq; (try dsimp only at hSq); go_simp; try with_reducible rfl)
    try simp only [q0P, q0Q, q0R, q0S]
    refine tkH 1 (v := ?_) rfl ?_ ?_
    rotate_left
    ·(intro wq hSq; (try dsimp only at hSq); go_simp; try with_reducible rfl)
    try simp only [q0P, q0Q, q0R, q0S]
    refine tkH 2 (v := ?_) rfl ?_ ?_
    rotate_left
    ·(intro wq hSq; (try dsimp only at hSq); go_simp; try with_reducible rfl)
    try simp only [q0P, q0Q, q0R, q0S]
    refine tkH 3 (v := ?_) rfl ?_ ?_
    rotate_left
    ·(intro wq hSq; (try dsimp only at hSq); go_simp; try with_reducible rfl)
    try simp only [q0P, q0Q, q0R, q0S]
    refine tkH 4 (v := ?_) rfl ?_ ?_
    rotate_left
    ·(intro wq hSq; (try dsimp only at hSq); go_simp; try with_reducible rfl)
    try simp only [q0P, q0Q, q0R, q0S]
    refine tkH 5 (v := ?_) rfl ?_ ?_
    rotate_left
    ·(intro wq hSq; (try dsimp only at hSq); go_simp; try with_reducible rfl)
    try simp only [q0P, q0Q, q0R, q0S]
    refine tkH 6 (v := ?_) rfl ?_ ?_
    rotate_left
    ·(intro wq hSq; (try dsimp only at hSq); go_simp; try with_reducible rfl)
    try simp only [q0P, q0Q, q0R, q0S]
    refine tkH 7 (v := ?_) rfl ?_ ?_
    rotate_left
    ·(intro wq hSq; (try dsimp only at hSq); go_simp; try with_reducible rfl)
    try simp only [q0P, q0Q, q0R, q0S]
    refine tkH 8 (v := ?_) rfl ?_ ?_
    rotate_left
    ·(intro wq hSq; (try dsimp only at hSq); go_simp; try with_reducible rfl)
    try simp only [q0P, q0Q, q0R, q0S]
    refine tkH 9 (v := ?_) rfl ?_ ?_
    rotate_left
    ·(intro wq hSq; (try dsimp only at hSq); go_simp; try with_reducible rfl)
    try simp only [q0P, q0Q, q0R, q0S]
    refine tkH 10 (v := ?_) rfl ?_ ?_
    rotate_left
    ·(intro wq hSq; (try dsimp only at hSq); go_simp; try with_reducible rfl)
    try simp only [q0P, q0Q, q0R, q0S]
    refine tkH 11 (v := ?_) rfl ?_ ?_
    rotate_left
    ·(intro wq hSq; (try dsimp only at hSq); go_simp; try with_reducible rfl)
    try simp only [q0P, q0Q, q0R, q0S]
    refine tkH 12 (v := ?_) rfl ?_ ?_
    rotate_left
    ·(intro wq hSq; (try dsimp only at hSq); go_simp; try with_reducible rfl)
    try simp only [q0P, q0Q, q0R, q0S]
    refine tkH 13 (v := ?_) rfl ?_ ?_
    rotate_left
    ·(intro wq hSq; (try dsimp only at hSq); go_simp; try with_reducible rfl)
    try simp only [q0P, q0Q, q0R, q0S]
    refine tkH 14 (v := ?_) rfl ?_ ?_
    rotate_left
    ·(intro wq hSq; (try dsimp only at hSq); go_simp; try with_reducible rfl)
    try simp only [q0P, q0Q, q0R, q0S]
    refine tkH 15 (v := ?_) rfl ?_ ?_
    rotate_left
    ·(intro wq hSq; (try dsimp only at hSq); go_simp; try with_reducible rfl)
    try simp only [q0P, q0Q, q0R, q0S]
    refine tkH 16 (v := ?_) rfl ?_ ?_
    rotate_left
    ·(intro wq hSq; (try dsimp only at hSq); go_simp; try with_reducible rfl)
    try simp only [q0P, q0Q, q0R, q0S]
    refine tkH 17 (v := ?_) rfl ?_ ?_
    rotate_left
    ·(intro wq hSq; (try dsimp only at hSq); go_simp; try with_reducible rfl)
    try simp only [q0P, q0Q, q0R, q0S]
    refine tkH 18 (v := ?_) rfl ?_ ?_
    rotate_left
    ·(intro wq hSq; (try dsimp only at hSq); go_simp; try with_reducible rfl)
    try simp only [q0P, q0Q, q0R, q0S]
    refine tkH 19 (v := ?_) rfl ?_ ?_
    rotate_left
    ·(intro wq hSq; (try dsimp only at hSq); go_simp; try with_reducible rfl)
    try simp only [q0P, q0Q, q0R, q0S]
    refine tkH 20 (v := ?_) rfl ?_ ?_
    rotate_left
    ·(intro wq hSq; (try dsimp only at hSq); go_simp; try with_reducible rfl)
    try simp only [q0P, q0Q, q0R, q0S]
    refine tkH 21 (v := ?_) rfl ?_ ?_
    rotate_left
    ·(intro wq hSq; (try dsimp only at hSq); go_simp; try with_reducible rfl)
    try simp only [q0P, q0Q, q0R, q0S]
    refine tkH 22 (v := ?_) rfl ?_ ?_
    rotate_left
    ·(intro wq hSq; (try dsimp only at hSq); go_simp; try with_reducible rfl)
    try simp only [q0P, q0Q, q0R, q0S]
    refine tkH 23 (v := ?_) rfl ?_ ?_
    rotate_left
    ·(intro wq hSq; (try dsimp only at hSq); go_simp; try with_reducible rfl)
    try simp only [q0P, q0Q, q0R, q0S]
    refine tkS 24 rfl ?_
    try simp only [q0P, q0Q, q0R, q0S]
    refine tkS 25 rfl ?_
    try simp only [q0P, q0Q, q0R, q0S]
    refine tkS 26 rfl ?_
    try simp only [q0P, q0Q, q0R, q0S]
    refine tkS 27 rfl ?_
    try simp only [q0P, q0Q, q0R, q0S]
    refine tkS 28 rfl ?_
    try simp only [q0P, q0Q, q0R, q0S]
    refine tkS 29 rfl ?_
    try simp only [q0P, q0Q, q0R, q0S]
    refine tkS 30 rfl ?_
    try simp only [q0P, q0Q, q0R, q0S]
    refine tkS 31 rfl ?_
    try simp only [q0P, q0Q, q0R, q0S]
    refine tkS 32 rfl ?_
    try simp only [q0P, q0Q, q0R, q0S]
    refine tkS 33 rfl ?_
    try simp only [q0P, q0Q, q0R, q0S]
    refine tkS 34 rfl ?_
    try simp only [q0P, q0Q, q0R, q0S]
    refine tkS 35 rfl ?_
    try simp only [q0P, q0Q, q0R, q0S]
    refine tkS 36 rfl ?_
    try simp only [q0P, q0Q, q0R, q0S]
    refine tkS 37 rfl ?_
    try simp only [q0P, q0Q, q0R, q0S]
    refine tkS 38 rfl ?_
    try simp only [q0P, q0Q, q0R, q0S]
    refine tkS 39 rfl ?_
    try simp only [q0P, q0Q, q0R, q0S]
    refine tkS 40 rfl ?_
    try simp only [q0P, q0Q, q0R, q0S]
    refine tkH 41 (v := ?_) rfl ?_ ?_
    rotate_left
    ·(intro wq hSq; (try dsimp only at hSq); go_simp; try with_reducible rfl)
    try simp only [q0P, q0Q, q0R, q0S]
    refine tkH 42 (v := ?_) rfl ?_ ?_
    rotate_left
    ·(intro wq hSq; (try dsimp only at hSq); go_simp; try with_reducible rfl)
    try simp only [q0P, q0Q, q0R, q0S]
    refine wpAnyH_end (by kernel_rfl) ?_
    go_wp2_with fail
    go_roundw
    case rel => exact ⟨k + 1, by omega, by go_num, by rw [HBT.out]; unfold stepF; rw [if_pos ⟨hs1, ht8, fun x hx => by cases hx⟩]; rfl, HBD.out⟩
    case measure => simp [intOf]; omega
   | some y =>
    obtain ⟨m, pr⟩ := y
    obtain ⟨jm, hjm, rfl, -, -⟩ := hbo.get m pr rfl
    obtain ⟨hjm2, hmk⟩ := HPRE.out m jm hjm
    rw [show bestI (some (m, jm.prio)) = (m : Int) from rfl]
    have hm0 : ¬ (m : Int) < 0 := by omega
    have hmn : m < n := by omega
    have dm : wr.cell? ⟨g, m * 9 + 3, none⟩ = some (.int .i64 jm.prio) := (job_cell HQW.out.ja hjm2 (by omega : 3 < 9) rfl).1
    clear hjm hjm2 hbo
    refine wp_region_heldL (fun w' => w'.cell? ⟨P.p, 1, none⟩ = some (.slice (some ⟨g, 0, none⟩) n vc) ∧ w'.cell? ⟨g, k * 9 + 3, none⟩ = some (.int .i64 j.prio) ∧ w'.cell? ⟨g, k * 9 + 4, none⟩ = some (.int .i64 j.state) ∧ w'.cell? ⟨g, k * 9 + 5, none⟩ = some (.int .i64 j.tries) ∧ w'.cell? ⟨g, m * 9 + 3, none⟩ = some (.int .i64 jm.prio)) (by kernel_rfl) ⟨y1, d3, d4, d5, dm⟩ (fun hHeld => ?_)
    clear d3 d4 d5 y1 dm
    by_cases hpr : jm.prio < j.prio
    ·have e3 : (jm.prio : Int) < (j.prio : Int) := by omega
     refine tkH 0 (v := ?_) rfl ?_ ?_
     rotate_left
     ·(intro wq hSq; (try dsimp only at hSq); go_simp; try with_reducible rfl)
     try simp only [q0P, q0Q, q0R, q0S]
     refine tkH 1 (v := ?_) rfl ?_ ?_
     rotate_left
     ·(intro wq hSq; (try dsimp only at hSq); go_simp; try with_reducible rfl)
     try simp only [q0P, q0Q, q0R, q0S]
     refine tkH 2 (v := ?_) rfl ?_ ?_
     rotate_left
     ·(intro wq hSq; (try dsimp only at hSq); go_simp; try with_reducible rfl)
     try simp only [q0P, q0Q, q0R, q0S]
     refine tkH 3 (v := ?_) rfl ?_ ?_
     rotate_left
     ·(intro wq hSq; (try dsimp only at hSq); go_simp; try with_reducible rfl)
     try simp only [q0P, q0Q, q0R, q0S]
     refine tkH 4 (v := ?_) rfl ?_ ?_
     rotate_left
     ·(intro wq hSq; (try dsimp only at hSq); go_simp; try with_reducible rfl)
     try simp only [q0P, q0Q, q0R, q0S]
     refine tkH 5 (v := ?_) rfl ?_ ?_
     rotate_left
     ·(intro wq hSq; (try dsimp only at hSq); go_simp; try with_reducible rfl)
     try simp only [q0P, q0Q, q0R, q0S]
     refine tkH 6 (v := ?_) rfl ?_ ?_
     rotate_left
     ·(intro wq hSq; (try dsimp only at hSq); go_simp; try with_reducible rfl)
     try simp only [q0P, q0Q, q0R, q0S]
     refine tkH 7 (v := ?_) rfl ?_ ?_
     rotate_left
     ·(intro wq hSq; (try dsimp only at hSq); go_simp; try with_reducible rfl)
     try simp only [q0P, q0Q, q0R, q0S]
     refine tkH 8 (v := ?_) rfl ?_ ?_
     rotate_left
     ·(intro wq hSq; (try dsimp only at hSq); go_simp; try with_reducible rfl)
     try simp only [q0P, q0Q, q0R, q0S]
     refine tkH 9 (v := ?_) rfl ?_ ?_
     rotate_left
     ·(intro wq hSq; (try dsimp only at hSq); go_simp; try with_reducible rfl)
     try simp only [q0P, q0Q, q0R, q0S]
     refine tkH 10 (v := ?_) rfl ?_ ?_
     rotate_left
     ·(intro wq hSq; (try dsimp only at hSq); go_simp; try with_reducible rfl)
     try simp only [q0P, q0Q, q0R, q0S]
     refine tkH 11 (v := ?_) rfl ?_ ?_
     rotate_left
     ·(intro wq hSq; (try dsimp only at hSq); go_simp; try with_reducible rfl)
     try simp only [q0P, q0Q, q0R, q0S]
     refine tkH 12 (v := ?_) rfl ?_ ?_
     rotate_left
     ·(intro wq hSq; (try dsimp only at hSq); go_simp; try with_reducible rfl)
     try simp only [q0P, q0Q, q0R, q0S]
     refine tkH 13 (v := ?_) rfl ?_ ?_
     rotate_left
     ·(intro wq hSq; (try dsimp only at hSq); go_simp; try with_reducible rfl)
     try simp only [q0P, q0Q, q0R, q0S]
     refine tkH 14 (v := ?_) rfl ?_ ?_
     rotate_left
     ·(intro wq hSq; (try dsimp only at hSq); go_simp; try with_reducible rfl)
     try simp only [q0P, q0Q, q0R, q0S]
     refine tkH 15 (v := ?_) rfl ?_ ?_
     rotate_left
     ·(intro wq hSq; (try dsimp only at hSq); go_simp; try with_reducible rfl)
     try simp only [q0P, q0Q, q0R, q0S]
     refine tkH 16 (v := ?_) rfl ?_ ?_
     rotate_left
     ·(intro wq hSq; (try dsimp only at hSq); go_simp; try with_reducible rfl)
     try simp only [q0P, q0Q, q0R, q0S]
     refine tkH 17 (v := ?_) rfl ?_ ?_
     rotate_left
     ·(intro wq hSq; (try dsimp only at hSq); go_simp; try with_reducible rfl)
     try simp only [q0P, q0Q, q0R, q0S]
     refine tkH 18 (v := ?_) rfl ?_ ?_
     rotate_left
     ·(intro wq hSq; (try dsimp only at hSq); go_simp; try with_reducible rfl)
     try simp only [q0P, q0Q, q0R, q0S]
     refine tkH 19 (v := ?_) rfl ?_ ?_
     rotate_left
     ·(intro wq hSq; (try dsimp only at hSq); go_simp; try with_reducible rfl)
     try simp only [q0P, q0Q, q0R, q0S]
     refine tkH 20 (v := ?_) rfl ?_ ?_
     rotate_left
     ·(intro wq hSq; (try dsimp only at hSq); go_simp; try with_reducible rfl)
     try simp only [q0P, q0Q, q0R, q0S]
     refine tkH 21 (v := ?_) rfl ?_ ?_
     rotate_left
     ·(intro wq hSq; (try dsimp only at hSq); go_simp; try with_reducible rfl)
     try simp only [q0P, q0Q, q0R, q0S]
     refine tkH 22 (v := ?_) rfl ?_ ?_
     rotate_left
     ·(intro wq hSq; (try dsimp only at hSq); go_simp; try with_reducible rfl)
     try simp only [q0P, q0Q, q0R, q0S]
     refine tkH 23 (v := ?_) rfl ?_ ?_
     rotate_left
     ·(intro wq hSq; (try dsimp only at hSq); go_simp; try with_reducible rfl)
     try simp only [q0P, q0Q, q0R, q0S]
     refine tkH 24 (v := ?_) rfl ?_ ?_
     rotate_left
     ·(intro wq hSq; (try dsimp only at hSq); go_simp; try with_reducible rfl)
     try simp only [q0P, q0Q, q0R, q0S]
     refine tkH 25 (v := ?_) rfl ?_ ?_
     rotate_left
     ·(intro wq hSq; (try dsimp only at hSq); go_simp; try with_reducible rfl)
     try simp only [q0P, q0Q, q0R, q0S]
     refine tkH 26 (v := ?_) rfl ?_ ?_
     rotate_left
     ·(intro wq hSq; (try dsimp only at hSq); go_simp; try with_reducible rfl)
     try simp only [q0P, q0Q, q0R, q0S]
     refine tkH 27 (v := ?_) rfl ?_ ?_
     rotate_left
     ·(intro wq hSq; (try dsimp only at hSq); go_simp; try with_reducible rfl)
     try simp only [q0P, q0Q, q0R, q0S]
     refine tkH 28 (v := ?_) rfl ?_ ?_
     rotate_left
     ·(intro wq hSq; (try dsimp only at hSq); go_simp; try with_reducible rfl)
     try simp only [q0P, q0Q, q0R, q0S]
     refine tkH 29 (v := ?_) rfl ?_ ?_
     rotate_left
     ·(intro wq hSq; (try dsimp only at hSq); go_simp; try with_reducible rfl)
     try simp only [q0P, q0Q, q0R, q0S]
     refine tkH 30 (v := ?_) rfl ?_ ?_
     rotate_left
     ·(intro wq hSq; (try dsimp only at hSq); go_simp; try with_reducible rfl)
     try simp only [q0P, q0Q, q0R, q0S]
     refine tkH 31 (v := ?_) rfl ?_ ?_
     rotate_left
     ·(intro wq hSq; (try dsimp only at hSq); go_simp; try with_reducible rfl)
     try simp only [q0P, q0Q, q0R, q0S]
     refine tkH 32 (v := ?_) rfl ?_ ?_
     rotate_left
     ·(intro wq hSq; (try dsimp only at hSq); go_simp; try with_reducible rfl)
     try simp only [q0P, q0Q, q0R, q0S]
     refine tkH 33 (v := ?_) rfl ?_ ?_
     rotate_left
     ·(intro wq hSq; (try dsimp only at hSq); go_simp; try with_reducible rfl)
     try simp only [q0P, q0Q, q0R, q0S]
     refine tkH 34 (v := ?_) rfl ?_ ?_
     rotate_left
     ·(intro wq hSq; (try dsimp only at hSq); go_simp; try with_reducible rfl)
     try simp only [q0P, q0Q, q0R, q0S]
     refine tkH 35 (v := ?_) rfl ?_ ?_
     rotate_left
     ·(intro wq hSq; (try dsimp only at hSq); go_simp; try with_reducible rfl)
     try simp only [q0P, q0Q, q0R, q0S]
     refine tkH 36 (v := ?_) rfl ?_ ?_
     rotate_left
     ·(intro wq hSq; (try dsimp only at hSq); go_simp; try with_reducible rfl)
     try simp only [q0P, q0Q, q0R, q0S]
     refine tkH 37 (v := ?_) rfl ?_ ?_
     rotate_left
     ·(intro wq hSq; (try dsimp only at hSq); go_simp; try with_reducible rfl)
     try simp only [q0P, q0Q, q0R, q0S]
     refine tkH 38 (v := ?_) rfl ?_ ?_
     rotate_left
     ·(intro wq hSq; (try dsimp only at hSq); go_simp; try with_reducible rfl)
     try simp only [q0P, q0Q, q0R, q0S]
     refine tkH 39 (v := ?_) rfl ?_ ?_
     rotate_left
     ·(intro wq hSq; (try dsimp only at hSq); go_simp; try with_reducible rfl)
     try simp only [q0P, q0Q, q0R, q0S]
     refine tkH 40 (v := ?_) rfl ?_ ?_
     rotate_left
     ·(intro wq hSq; (try dsimp only at hSq); go_simp; try with_reducible rfl)
     try simp only [q0P, q0Q, q0R, q0S]
     refine tkH 41 (v := ?_) rfl ?_ ?_
     rotate_left
     ·(intro wq hSq; (try dsimp only at hSq); go_simp; try with_reducible rfl)
     try simp only [q0P, q0Q, q0R, q0S]
     refine tkH 42 (v := ?_) rfl ?_ ?_
     rotate_left
     ·(intro wq hSq; (try dsimp only at hSq); go_simp; try with_reducible rfl)
     try simp only [q0P, q0Q, q0R, q0S]
     refine wpAnyH_end (by kernel_rfl) ?_
     go_wp2_with fail
     go_roundw
     case rel => exact ⟨k + 1, by omega, by go_num, by rw [HBT.out]; unfold stepF; rw [if_pos ⟨hs1, ht8, fun x hx => by injection hx with hx; subst hx; exact hpr⟩]; rfl, HBD.out⟩
     case measure => simp [intOf]; omega
    ·have e3 : ¬ (jm.prio : Int) < (j.prio : Int) := by omega
     refine tkH 0 (v := ?_) rfl ?_ ?_
     rotate_left
     ·(intro wq hSq; (try dsimp only at hSq); go_simp; try with_reducible rfl)
     try simp only [q0P, q0Q, q0R, q0S]
     refine tkH 1 (v := ?_) rfl ?_ ?_
     rotate_left
     ·(intro wq hSq; (try dsimp only at hSq); go_simp; try with_reducible rfl)
     try simp only [q0P, q0Q, q0R, q0S]
     refine tkH 2 (v := ?_) rfl ?_ ?_
     rotate_left
     ·(intro wq hSq; (try dsimp only at hSq); go_simp; try with_reducible rfl)
     try simp only [q0P, q0Q, q0R, q0S]
     refine tkH 3 (v := ?_) rfl ?_ ?_
     rotate_left
     ·(intro wq hSq; (try dsimp only at hSq); go_simp; try with_reducible rfl)
     try simp only [q0P, q0Q, q0R, q0S]
     refine tkH 4 (v := ?_) rfl ?_ ?_
     rotate_left
     ·(intro wq hSq; (try dsimp only at hSq); go_simp; try with_reducible rfl)
     try simp only [q0P, q0Q, q0R, q0S]
     refine tkH 5 (v := ?_) rfl ?_ ?_
     rotate_left
     ·(intro wq hSq; (try dsimp only at hSq); go_simp; try with_reducible rfl)
     try simp only [q0P, q0Q, q0R, q0S]
     refine tkH 6 (v := ?_) rfl ?_ ?_
     rotate_left
     ·(intro wq hSq; (try dsimp only at hSq); go_simp; try with_reducible rfl)
     try simp only [q0P, q0Q, q0R, q0S]
     refine tkH 7 (v := ?_) rfl ?_ ?_
     rotate_left
     ·(intro wq hSq; (try dsimp only at hSq); go_simp; try with_reducible rfl)
     try simp only [q0P, q0Q, q0R, q0S]
     refine tkH 8 (v := ?_) rfl ?_ ?_
     rotate_left
     ·(intro wq hSq; (try dsimp only at hSq); go_simp; try with_reducible rfl)
     try simp only [q0P, q0Q, q0R, q0S]
     refine tkH 9 (v := ?_) rfl ?_ ?_
     rotate_left
     ·(intro wq hSq; (try dsimp only at hSq); go_simp; try with_reducible rfl)
     try simp only [q0P, q0Q, q0R, q0S]
     refine tkH 10 (v := ?_) rfl ?_ ?_
     rotate_left
     ·(intro wq hSq; (try dsimp only at hSq); go_simp; try with_reducible rfl)
     try simp only [q0P, q0Q, q0R, q0S]
     refine tkH 11 (v := ?_) rfl ?_ ?_
     rotate_left
     ·(intro wq hSq; (try dsimp only at hSq); go_simp; try with_reducible rfl)
     try simp only [q0P, q0Q, q0R, q0S]
     refine tkH 12 (v := ?_) rfl ?_ ?_
     rotate_left
     ·(intro wq hSq; (try dsimp only at hSq); go_simp; try with_reducible rfl)
     try simp only [q0P, q0Q, q0R, q0S]
     refine tkH 13 (v := ?_) rfl ?_ ?_
     rotate_left
     ·(intro wq hSq; (try dsimp only at hSq); go_simp; try with_reducible rfl)
     try simp only [q0P, q0Q, q0R, q0S]
     refine tkH 14 (v := ?_) rfl ?_ ?_
     rotate_left
     ·(intro wq hSq; (try dsimp only at hSq); go_simp; try with_reducible rfl)
     try simp only [q0P, q0Q, q0R, q0S]
     refine tkH 15 (v := ?_) rfl ?_ ?_
     rotate_left
     ·(intro wq hSq; (try dsimp only at hSq); go_simp; try with_reducible rfl)
     try simp only [q0P, q0Q, q0R, q0S]
     refine tkH 16 (v := ?_) rfl ?_ ?_
     rotate_left
     ·(intro wq hSq; (try dsimp only at hSq); go_simp; try with_reducible rfl)
     try simp only [q0P, q0Q, q0R, q0S]
     refine tkH 17 (v := ?_) rfl ?_ ?_
     rotate_left
     ·(intro wq hSq; (try dsimp only at hSq); go_simp; try with_reducible rfl)
     try simp only [q0P, q0Q, q0R, q0S]
     refine tkH 18 (v := ?_) rfl ?_ ?_
     rotate_left
     ·(intro wq hSq; (try dsimp only at hSq); go_simp; try with_reducible rfl)
     try simp only [q0P, q0Q, q0R, q0S]
     refine tkH 19 (v := ?_) rfl ?_ ?_
     rotate_left
     ·(intro wq hSq; (try dsimp only at hSq); go_simp; try with_reducible rfl)
     try simp only [q0P, q0Q, q0R, q0S]
     refine tkH 20 (v := ?_) rfl ?_ ?_
     rotate_left
     ·(intro wq hSq; (try dsimp only at hSq); go_simp; try with_reducible rfl)
     try simp only [q0P, q0Q, q0R, q0S]
     refine tkH 21 (v := ?_) rfl ?_ ?_
     rotate_left
     ·(intro wq hSq; (try dsimp only at hSq); go_simp; try with_reducible rfl)
     try simp only [q0P, q0Q, q0R, q0S]
     refine tkH 22 (v := ?_) rfl ?_ ?_
     rotate_left
     ·(intro wq hSq; (try dsimp only at hSq); go_simp; try with_reducible rfl)
     try simp only [q0P, q0Q, q0R, q0S]
     refine tkH 23 (v := ?_) rfl ?_ ?_
     rotate_left
     ·(intro wq hSq; (try dsimp only at hSq); go_simp; try with_reducible rfl)
     try simp only [q0P, q0Q, q0R, q0S]
     refine tkH 24 (v := ?_) rfl ?_ ?_
     rotate_left
     ·(intro wq hSq; (try dsimp only at hSq); go_simp; try with_reducible rfl)
     try simp only [q0P, q0Q, q0R, q0S]
     refine tkH 25 (v := ?_) rfl ?_ ?_
     rotate_left
     ·(intro wq hSq; (try dsimp only at hSq); go_simp; try with_reducible rfl)
     try simp only [q0P, q0Q, q0R, q0S]
     refine tkH 26 (v := ?_) rfl ?_ ?_
     rotate_left
     ·(intro wq hSq; (try dsimp only at hSq); go_simp; try with_reducible rfl)
     try simp only [q0P, q0Q, q0R, q0S]
     refine tkH 27 (v := ?_) rfl ?_ ?_
     rotate_left
     ·(intro wq hSq; (try dsimp only at hSq); go_simp; try with_reducible rfl)
     try simp only [q0P, q0Q, q0R, q0S]
     refine tkH 28 (v := ?_) rfl ?_ ?_
     rotate_left
     ·(intro wq hSq; (try dsimp only at hSq); go_simp; try with_reducible rfl)
     try simp only [q0P, q0Q, q0R, q0S]
     refine tkH 29 (v := ?_) rfl ?_ ?_
     rotate_left
     ·(intro wq hSq; (try dsimp only at hSq); go_simp; try with_reducible rfl)
     try simp only [q0P, q0Q, q0R, q0S]
     refine tkH 30 (v := ?_) rfl ?_ ?_
     rotate_left
     ·(intro wq hSq; (try dsimp only at hSq); go_simp; try with_reducible rfl)
     try simp only [q0P, q0Q, q0R, q0S]
     refine tkH 31 (v := ?_) rfl ?_ ?_
     rotate_left
     ·(intro wq hSq; (try dsimp only at hSq); go_simp; try with_reducible rfl)
     try simp only [q0P, q0Q, q0R, q0S]
     refine tkH 32 (v := ?_) rfl ?_ ?_
     rotate_left
     ·(intro wq hSq; (try dsimp only at hSq); go_simp; try with_reducible rfl)
     try simp only [q0P, q0Q, q0R, q0S]
     refine tkH 33 (v := ?_) rfl ?_ ?_
     rotate_left
     ·(intro wq hSq; (try dsimp only at hSq); go_simp; try with_reducible rfl)
     try simp only [q0P, q0Q, q0R, q0S]
     refine tkH 34 (v := ?_) rfl ?_ ?_
     rotate_left
     ·(intro wq hSq; (try dsimp only at hSq); go_simp; try with_reducible rfl)
     try simp only [q0P, q0Q, q0R, q0S]
     refine tkH 35 (v := ?_) rfl ?_ ?_
     rotate_left
     ·(intro wq hSq; (try dsimp only at hSq); go_simp; try with_reducible rfl)
     try simp only [q0P, q0Q, q0R, q0S]
     refine tkH 36 (v := ?_) rfl ?_ ?_
     rotate_left
     ·(intro wq hSq; (try dsimp only at hSq); go_simp; try with_reducible rfl)
     try simp only [q0P, q0Q, q0R, q0S]
     refine tkH 37 (v := ?_) rfl ?_ ?_
     rotate_left
     ·(intro wq hSq; (try dsimp only at hSq); go_simp; try with_reducible rfl)
     try simp only [q0P, q0Q, q0R, q0S]
     refine tkH 38 (v := ?_) rfl ?_ ?_
     rotate_left
     ·(intro wq hSq; (try dsimp only at hSq); go_simp; try with_reducible rfl)
     try simp only [q0P, q0Q, q0R, q0S]
     refine tkH 39 (v := ?_) rfl ?_ ?_
     rotate_left
     ·(intro wq hSq; (try dsimp only at hSq); go_simp; try with_reducible rfl)
     try simp only [q0P, q0Q, q0R, q0S]
     refine tkH 40 (v := ?_) rfl ?_ ?_
     rotate_left
     ·(intro wq hSq; (try dsimp only at hSq); go_simp; try with_reducible rfl)
     try simp only [q0P, q0Q, q0R, q0S]
     refine tkH 41 (v := ?_) rfl ?_ ?_
     rotate_left
     ·(intro wq hSq; (try dsimp only at hSq); go_simp; try with_reducible rfl)
     try simp only [q0P, q0Q, q0R, q0S]
     refine tkH 42 (v := ?_) rfl ?_ ?_
     rotate_left
     ·(intro wq hSq; (try dsimp only at hSq); go_simp; try with_reducible rfl)
     try simp only [q0P, q0Q, q0R, q0S]
     refine wpAnyH_end (by kernel_rfl) ?_
     go_wp2_with fail
     go_roundw
     case rel => exact ⟨k + 1, by omega, by go_num, by rw [HBT.out]; unfold stepF; rw [if_neg (by rintro ⟨-, -, q⟩; exact hpr (q _ rfl))]; rfl, HBD.out⟩
     case measure => simp [intOf]; omega
  ·obtain rfl : k = n := by omega
   have hA : x.q.jobs.take k = x.q.jobs := by rw [HN.out, List.take_length]
   rw [hA]
   clear hA hQ
   go_wp2_with fail
   go_ret
   exact ⟨rfl, hB.out⟩
end
/- Walks: the reference's queue of jobs: Take. Printed by gen_rdb.py. -/
section
open Go.RowKit Go.Shelf
/-- A block that is new: what is written there changes nothing that was. -/
theorem rstp_new {P : RQP} {v v' : Value} {w w1 : World} (h : RStp P v v' w w1) (b : Nat) (hb : w.heap.size ≤ b) (a : Addr) (ha : a.block = b) (u : Value) : RStp P v v' w (w1.setCell a u) :=
 ⟨⟨h.kp.os, h.kp.tape, h.kp.output, by simpa using h.kp.size, fun k hk hn => (Below.heap_setCell _ _ _ _ (by omega)).trans (h.kp.block k hk hn)⟩, h.mv⟩
theorem rqd_new {P : RQP} {v : Value} {x : Qst} {w : World} (h : RQD P v x w) (b : Nat) (hb : ¬ RMine P v b) (a : Addr) (ha : a.block = b) (u : Value) : RQD P v x (w.setCell a u) :=
 ⟨h.qa.other (by rw [ha]; exact fun e => hb (.inl e)) u, h.ja.setCell_ne (by rw [ha]; exact fun e => hb (.inr (.inr (.inr e)))) u,
  h.dk.other (by rw [ha]; exact fun e => hb (.inr (.inl e))) (by rw [ha]; exact fun e => hb (.inr (.inr (.inl e)))) u, h.np, h.nv, h.fine, h.good⟩
/-- What a call leaves, the result's box aside. -/
structure RLeft (P : RQP) (v : Value) (x' : Qst) (w : World) (b : Nat) (W : World) : Prop where
 (qd : RQD P v x' W)
 (st : RStp P v v w W)
 (nb : ¬ RMine P v b)
 (wb : w.heap.size ≤ b)
theorem RLeft.set {P : RQP} {v : Value} {x' : Qst} {w : World} {b : Nat} {W : World} (h : RLeft P v x' w b W) (a : Addr) (ha : a.block = b) (u : Value) : RLeft P v x' w b (W.setCell a u) :=
 ⟨rqd_new h.qd b h.nb a ha u, rstp_new h.st b h.wb a ha u, h.nb, h.wb⟩
theorem RLeft.nine {P : RQP} {v : Value} {x' : Qst} {w : World} {b : Nat} {W : World} (h : RLeft P v x' w b W) (v0 v1 v2 v3 v4 v5 v6 v7 v8 : Value) : RLeft P v x' w b (((((((((W.setCell ⟨b, 0, none⟩ v0).setCell ⟨b, 1, none⟩ v1).setCell ⟨b, 2, none⟩ v2).setCell ⟨b, 3, none⟩ v3).setCell ⟨b, 4, none⟩ v4).setCell ⟨b, 5, none⟩ v5).setCell ⟨b, 6, none⟩ v6).setCell ⟨b, 7, none⟩ v7).setCell ⟨b, 8, none⟩ v8) :=
 ((((((((h.set ⟨b, 0, none⟩ rfl v0).set ⟨b, 1, none⟩ rfl v1).set ⟨b, 2, none⟩ rfl v2).set ⟨b, 3, none⟩ rfl v3).set ⟨b, 4, none⟩ rfl v4).set ⟨b, 5, none⟩ rfl v5).set ⟨b, 6, none⟩ rfl v6).set ⟨b, 7, none⟩ rfl v7).set ⟨b, 8, none⟩ rfl v8
theorem RLeft.below {P : RQP} {v : Value} {x' : Qst} {w : World} {b : Nat} {W W' : World} (h : RLeft P v x' w b W) (hb : Below W.heap.size W W') : RLeft P v x' w b W' := ⟨h.qd.below hb, h.st.below hb, h.nb, h.wb⟩
/-- Two cells of a job are written. -/
theorem RQD.setTwo {P : RQP} {g cap k i i2 : Nat} {x : Qst} {w : World} {j j1 j' : Jb} (h : RQD P (.slice (some ⟨g, 0, none⟩) x.q.jobs.length cap) x w) (hj : x.q.jobs[k]? = some j) (hi : i < 9) (hi2 : i2 < 9) (u u2 : Value) (hc : j1.cells = j.cells.set i u) (hc2 : j'.cells = j1.cells.set i2 u2)
  (h1 : j'.id = j.id) (h2 : j'.client = j.client) (h3 : j'.token = j.token) (ho : j'.ok x.q.last) (hf : j'.fine) :
  RQD P (.slice (some ⟨g, 0, none⟩) (x.q.put k j').jobs.length cap) { x with q := x.q.put k j' } ((w.setCell ⟨g, k * 9 + i, none⟩ u).setCell ⟨g, k * 9 + i2, none⟩ u2) ∧ Kp (RMine P (.slice (some ⟨g, 0, none⟩) x.q.jobs.length cap)) w ((w.setCell ⟨g, k * 9 + i, none⟩ u).setCell ⟨g, k * 9 + i2, none⟩ u2) := by
 have hn := owns_setAny h.ja (k * 9 + i) u
 rw [← jobsL_set x.q.jobs k j j1 hj i hi u hc] at hn
 have hn2 := owns_setAny hn (k * 9 + i2) u2
 rw [← jobsL_set (x.q.jobs.set k j1) k j1 j' (by rw [List.getElem?_set_self (List.getElem?_eq_some_iff.1 hj).1]) i2 hi2 u2 hc2, List.set_set] at hn2
 have hl : (x.q.put k j').jobs.length = x.q.jobs.length := List.length_set
 rw [hl]
 have hgp : ¬ g = P.p := fun e => h.qa.ne h.ja (by show some g = _; rw [e])
 have hgd : ¬ g = P.d := fun e => h.nv.1 (by show some g = _; rw [e])
 have hgb : ¬ g = P.b := fun e => h.nv.2 (by show some g = _; rw [e])
 refine ⟨⟨(h.qa.other (a := ⟨g, k * 9 + i, none⟩) hgp _).other (a := ⟨g, k * 9 + i2, none⟩) hgp _, ?_, (h.dk.other (a := ⟨g, k * 9 + i, none⟩) hgd hgb _).other (a := ⟨g, k * 9 + i2, none⟩) hgd hgb _, h.np, h.nv, h.fine.put hj h1 h2 h3 ho hf, h.good⟩,
  ((Kp.refl _ w).setCell (a := ⟨g, k * 9 + i, none⟩) (.inr (.inr (.inr rfl))) _).setCell (a := ⟨g, k * 9 + i2, none⟩) (.inr (.inr (.inr rfl))) _⟩
 show World.owns _ _ _ _ _ (x.q.put k j').jobs.length _
 rw [hl]; exact hn2
theorem rfTake_did (P : RQP) (v : Value) (x : Qst) (w : World) (h : RQD P v x w) :
  Calls Tryz.prog 26 #[.pointer (some ⟨P.p, 0, none⟩)] w fun e w' => RDid P v (.tuple #[x.take.1.1.val, .bool x.take.1.2.1, .int .i64 x.take.1.2.2]) x.take.2 w e w' := by
 obtain ⟨R, hR⟩ : ∃ R, R = x.take := ⟨_, rfl⟩
 rw [← hR]
 unfold Qst.take at hR
 obtain ⟨W1, hW1⟩ : ∃ W, W = w.alloc (.cells #[.int .i64 0, .string { data := #[] }, .string { data := #[] }, .int .i64 0, .int .i64 0, .int .i64 0, .string { data := #[] }, .string { data := #[] }, .string { data := #[] }] 48) := ⟨_, rfl⟩
 have hb0 : Below w.heap.size w W1 := by rw [hW1]; exact (Below.refl _ w).alloc (Nat.le_refl _) _
 have g1 : BoxAt W1 w.heap.size Jb.none_ := by rw [hW1]; exact alloc_last _ _ rfl
 have h1 := h.below hb0
 obtain ⟨-, k1, -, k3, -, -, -⟩ := h1.qa.cells
 have hlen := h.fine.ok.len
 obtain ⟨b, hb⟩ : ∃ b, b = w.heap.size := ⟨_, rfl⟩
 have L1 : RLeft P v x w b W1 := ⟨h1, RStp.of_below hb0, fun hm => by have := h.lt b hm; omega, by omega⟩
 rw [← hb] at g1
 have HL1 := Lib.hid L1
 have HG := Lib.hid g1
 have HW1 := Lib.hid hW1
 have HBW := Lib.hid hb
 have HFI := Lib.hid h.fine
 clear h1 hW1 hb0 g1 hb L1 h
 by_cases hd : x.down = true
 ·rw [if_pos hd] at hR
  rw [hd] at k3
  have HR := Lib.hid hR
  clear hd hR
  go_enter Tryz.func26, Tryz.ntmps26
  go_upto_region 1 with (fail)
  rw [← HW1.out, ← HBW.out]
  obtain ⟨d0, d1, d2, d3, d4, d5, d6, d7, d8⟩ := HG.out.all
  obtain ⟨f0, f1, f2, f3, f4, f5, f6, f7, f8⟩ := HG.out.free
  go_wp2_with fail
  have hbx : BoxAt (((((((((W1.setCell ⟨b, 0, none⟩ (.int .i64 0)).setCell ⟨b, 1, none⟩ (.string { data := #[] })).setCell ⟨b, 2, none⟩ (.string { data := #[] })).setCell ⟨b, 3, none⟩ (.int .i64 0)).setCell ⟨b, 4, none⟩ (.int .i64 0)).setCell ⟨b, 5, none⟩ (.int .i64 0)).setCell ⟨b, 6, none⟩ (.string { data := #[] })).setCell ⟨b, 7, none⟩ (.string { data := #[] })).setCell ⟨b, 8, none⟩ (.string { data := #[] })) b Jb.none_ := nine_heap HG.out rfl _ _ _ _ _ _ _ _ _
  have hll := HL1.out.nine (.int .i64 0) (.string { data := #[] }) (.string { data := #[] }) (.int .i64 0) (.int .i64 0) (.int .i64 0) (.string { data := #[] }) (.string { data := #[] }) (.string { data := #[] })
  generalize (((((((((W1.setCell ⟨b, 0, none⟩ (.int .i64 0)).setCell ⟨b, 1, none⟩ (.string { data := #[] })).setCell ⟨b, 2, none⟩ (.string { data := #[] })).setCell ⟨b, 3, none⟩ (.int .i64 0)).setCell ⟨b, 4, none⟩ (.int .i64 0)).setCell ⟨b, 5, none⟩ (.int .i64 0)).setCell ⟨b, 6, none⟩ (.string { data := #[] })).setCell ⟨b, 7, none⟩ (.string { data := #[] })).setCell ⟨b, 8, none⟩ (.string { data := #[] })) = w9 at hbx hll ⊢
  clear d0 d1 d2 d3 d4 d5 d6 d7 d8 f0 f1 f2 f3 f4 f5 f6 f7 f8
  obtain ⟨d0, d1, d2, d3, d4, d5, d6, d7, d8⟩ := hbx.all
  rw [HR.out]
  exact bodyPost_ret (v := .tuple #[Jb.none_.val, .bool false, .int .i64 9]) (by simp [results, Tryz.results26, go_sem, d0, d1, d2, d3, d4, d5, d6, d7, d8]; rfl) rfl ⟨rfl, _, hll.qd, hll.st⟩
 rw [if_neg hd] at hR
 have hd' : x.down = false := by simpa using hd
 rw [hd'] at k3
 clear hd'
 have HR := Lib.hid hR
 clear hd hR
 obtain ⟨va, vc, rfl⟩ : ∃ a c, v = .slice a x.q.jobs.length c := by
  rcases HL1.out.qd.ja.2 with ⟨e, h0⟩ | ⟨g, c, _, _, e, _⟩
  ·exact ⟨none, 0, by rw [e, h0]⟩
  ·exact ⟨_, c, e⟩
 obtain ⟨n, hn⟩ : ∃ n, n = x.q.jobs.length := ⟨_, rfl⟩
 have HN := Lib.hid hn
 rw [← hn] at hlen
 clear hn
 go_enter Tryz.func26, Tryz.ntmps26
 go_upto_region 1 with (fail)
 rw [← HW1.out, ← HBW.out]
 have HFS := Lib.hid (rffirst_any P _ x W1 HL1.out.qd)
 go_wp2_with fail
 refine HFS.out.mono ?_
 rintro e wr ⟨rfl, hbr⟩
 have hL := Lib.hid (HL1.out.below hbr)
 have hX := Lib.hid (HG.out.below hbr)
 clear hbr k1 k3 HFS
 obtain ⟨B, hB⟩ : ∃ B, B = bestF x.q.jobs 0 none := ⟨_, rfl⟩
 have hR2 := HR.out
 rw [← hB] at hR2 ⊢
 have hbo : BestOk x.q.jobs B := by rw [hB]; exact best_ok x.q.jobs
 clear hB HR
 cases B with
 | none =>
  dsimp only at hR2
  have HR := Lib.hid hR2
  clear hR2 hbo
  rw [show bestI none = -1 from rfl]
  obtain ⟨d0, d1, d2, d3, d4, d5, d6, d7, d8⟩ := hX.out.all
  obtain ⟨f0, f1, f2, f3, f4, f5, f6, f7, f8⟩ := hX.out.free
  go_wp2_with fail
  have hbx : BoxAt (((((((((wr.setCell ⟨b, 0, none⟩ (.int .i64 0)).setCell ⟨b, 1, none⟩ (.string { data := #[] })).setCell ⟨b, 2, none⟩ (.string { data := #[] })).setCell ⟨b, 3, none⟩ (.int .i64 0)).setCell ⟨b, 4, none⟩ (.int .i64 0)).setCell ⟨b, 5, none⟩ (.int .i64 0)).setCell ⟨b, 6, none⟩ (.string { data := #[] })).setCell ⟨b, 7, none⟩ (.string { data := #[] })).setCell ⟨b, 8, none⟩ (.string { data := #[] })) b Jb.none_ := nine_heap hX.out rfl _ _ _ _ _ _ _ _ _
  have hll := hL.out.nine (.int .i64 0) (.string { data := #[] }) (.string { data := #[] }) (.int .i64 0) (.int .i64 0) (.int .i64 0) (.string { data := #[] }) (.string { data := #[] }) (.string { data := #[] })
  generalize (((((((((wr.setCell ⟨b, 0, none⟩ (.int .i64 0)).setCell ⟨b, 1, none⟩ (.string { data := #[] })).setCell ⟨b, 2, none⟩ (.string { data := #[] })).setCell ⟨b, 3, none⟩ (.int .i64 0)).setCell ⟨b, 4, none⟩ (.int .i64 0)).setCell ⟨b, 5, none⟩ (.int .i64 0)).setCell ⟨b, 6, none⟩ (.string { data := #[] })).setCell ⟨b, 7, none⟩ (.string { data := #[] })).setCell ⟨b, 8, none⟩ (.string { data := #[] })) = w9 at hbx hll ⊢
  clear d0 d1 d2 d3 d4 d5 d6 d7 d8 f0 f1 f2 f3 f4 f5 f6 f7 f8
  obtain ⟨d0, d1, d2, d3, d4, d5, d6, d7, d8⟩ := hbx.all
  rw [HR.out]
  exact bodyPost_ret (v := .tuple #[Jb.none_.val, .bool false, .int .i64 0]) (by simp [results, Tryz.results26, go_sem, d0, d1, d2, d3, d4, d5, d6, d7, d8]; rfl) rfl ⟨rfl, _, hll.qd, hll.st⟩
 | some y =>
  obtain ⟨m, pr⟩ := y
  obtain ⟨j, hj, -, hs1, ht8⟩ := hbo.get m pr rfl
  dsimp only at hR2
  rw [hj] at hR2
  dsimp only at hR2
  rw [show bestI (some (m, pr)) = (m : Int) from rfl]
  have HS2 := Lib.hid hs1
  have hjo := HFI.out.ok.job j (List.mem_of_getElem? hj)
  have hjf := HFI.out.job j (List.mem_of_getElem? hj)
  have hlast := HFI.out.ok.last
  have HRC := Lib.hid (rftaken_any j.id (by have := hjo.id1; omega))
  have htl : (recB 2 j.id).length ≤ 100000000 := by rw [recB_length]; omega
  obtain ⟨T, hT⟩ : ∃ T, T = recB 2 j.id := ⟨_, rfl⟩
  rw [← hT] at hR2 htl HRC
  have hq1 := note_q x T
  obtain ⟨g, cap', hge, -, hmk, -⟩ := hL.out.qd.job hj
  injection hge with ha hnn hcc
  clear hnn hcc
  subst ha
  have HN2 := Lib.hid (fun W (hW : RQD P (.slice (some ⟨g, 0, none⟩) x.q.jobs.length vc) x W) => rfnote_any P _ x T htl W hW)
  obtain ⟨N, hN⟩ : ∃ N, N = x.note T := ⟨_, rfl⟩
  rw [← hN] at hR2 HN2 hq1
  obtain ⟨n1, n2⟩ := N
  dsimp only at hR2 HN2 hq1
  have HJ := Lib.hid hj
  have HE := Lib.hid hq1
  have HJO := Lib.hid hjo
  have HJF := Lib.hid hjf
  unfold strV at HRC HN2
  have hm0 : ¬ (m : Int) < 0 := by omega
  obtain ⟨-, y1, -⟩ := hL.out.qd.qa.cells
  have c0 : wr.cell? ⟨g, m * 9, none⟩ = some (.int .i64 j.id) := (job_cell hL.out.qd.ja hj (by omega : 0 < 9) rfl).1
  clear hT hN hq1 hjo hjf hj hbo htl hs1
  by_cases h0 : n1 = 0
  ·rw [if_pos h0] at hR2
   subst h0
   have HR := Lib.hid hR2
   clear hR2
   go_wp2_with fail
   refine (HRC.out wr).mono ?_
   rintro e w2 ⟨rfl, hb2⟩
   have HL2 := Lib.hid (hL.out.below hb2)
   have HX2 := Lib.hid (hX.out.below hb2)
   clear hb2 c0 y1
   go_wp2_with fail
   refine (HN2.out w2 HL2.out.qd).mono ?_
   rintro e w3 ⟨rfl, hq3, hk3⟩
   have hx3 : BoxAt w3 b Jb.none_ := (hk3.block _ (lt_of_heap HX2.out) HL2.out.nb).trans HX2.out
   have hst3 := HL2.out.st.trans (RStp.of_kp hk3)
   have hjq : n2.q.jobs[m]? = some j := by rw [HE.out]; exact HJ.out
   have hll : x.q.jobs.length = n2.q.jobs.length := by rw [HE.out]
   rw [hll] at hq3 hst3
   obtain ⟨c5, f5⟩ := job_cell hq3.ja hjq (by omega : 5 < 9) rfl
   obtain ⟨c4, f4⟩ := job_cell hq3.ja hjq (by omega : 4 < 9) rfl
   obtain ⟨t1, t2⟩ := hq3.setTwo hjq (by omega : 4 < 9) (by omega : 5 < 9) (.int .i64 2) (.int .i64 ((j.tries : Int) + 1)) (j1 := { j with state := 2 }) (j' := { j with tries := j.tries + 1, state := 2 }) rfl (by rfl) rfl rfl rfl
    (by rw [HE.out]; exact ⟨HJO.out.id0, HJO.out.id1, HJO.out.prio, HJO.out.cl, HJO.out.tk, by show j.tries + 1 ≤ 8; omega, by show 1 ≤ 2; omega, by show 2 ≤ 5; omega, HJO.out.wk, HJO.out.pt, HJO.out.rs⟩)
    ⟨fun _ => Nat.succ_pos _, fun _ => Nat.succ_pos _, fun _ => HJF.out.rs0 (by have h := HS2.out; show endedB j.state = false; rw [h]; rfl)⟩
   have hj3 : (n2.q.put m { j with tries := j.tries + 1, state := 2 }).jobs[m]? = some { j with tries := j.tries + 1, state := 2 } := put_get hjq
   obtain ⟨g', cap', hge, -, e0, e1, e2, e3, e4, e5, e6, e7, e8⟩ := JobsAt.cells t1.ja m _ hj3
   injection hge with hge _ _
   injection hge with hge
   injection hge with hge
   subst hge
   unfold strV at e1 e2 e6 e7 e8
   have hbg : ¬ g = b := fun e => HL2.out.nb (.inr (.inr (.inr (by show some g = some b; rw [e]))))
   have hx5 : BoxAt ((w3.setCell ⟨g, m * 9 + 4, none⟩ (.int .i64 2)).setCell ⟨g, m * 9 + 5, none⟩ (.int .i64 ((j.tries : Int) + 1))) b Jb.none_ := by
    unfold BoxAt
    rw [Below.heap_setCell _ _ _ _ (fun q => hbg q.symm), Below.heap_setCell _ _ _ _ (fun q => hbg q.symm)]; exact hx3
   obtain ⟨d0, d1, d2, d3, d4, d5, d6, d7, d8⟩ := hx5.all
   obtain ⟨f0, f1, f2, f3, f4', f5', f6, f7, f8⟩ := hx5.free
   have hl5 : RLeft P (.slice (some ⟨g, 0, none⟩) n2.q.jobs.length vc) { n2 with q := x.q.put m { j with tries := j.tries + 1, state := 2 } } w b ((w3.setCell ⟨g, m * 9 + 4, none⟩ (.int .i64 2)).setCell ⟨g, m * 9 + 5, none⟩ (.int .i64 ((j.tries : Int) + 1))) :=
    ⟨by
     have t := t1
     rw [length_put, HE.out] at t
     rw [HE.out]
     exact t, hst3.trans (RStp.of_kp t2), by rw [← hll]; exact HL2.out.nb, HL2.out.wb⟩
   have HL5 := Lib.hid hl5
   have HX5 := Lib.hid hx5
   have HLL := Lib.hid hll
   obtain ⟨W5, hW5⟩ : ∃ W, W = (w3.setCell ⟨g, m * 9 + 4, none⟩ (.int .i64 2)).setCell ⟨g, m * 9 + 5, none⟩ (.int .i64 ((j.tries : Int) + 1)) := ⟨_, rfl⟩
   rw [← hW5] at HL5 HX5 e0 e1 e2 e3 e4 e5 e6 e7 e8 d0 d1 d2 d3 d4 d5 d6 d7 d8 f0 f1 f2 f3 f4' f5' f6 f7 f8
   have HW5 := Lib.hid hW5
   clear hq3 hk3 hst3 t1 t2 hj3 hjq hx3 hx5 hl5 hll hW5 hbg
   go_upto_region 11 with (fail)
   rw [← HW5.out]
   clear HW5 c4 c5 f4 f5
   go_wp2_with fail
   have hbx : BoxAt (((((((((W5.setCell ⟨b, 0, none⟩ (.int .i64 j.id)).setCell ⟨b, 1, none⟩ (.string (bytesOf j.client))).setCell ⟨b, 2, none⟩ (.string (bytesOf j.token))).setCell ⟨b, 3, none⟩ (.int .i64 j.prio)).setCell ⟨b, 4, none⟩ (.int .i64 2)).setCell ⟨b, 5, none⟩ (.int .i64 ((j.tries : Int) + 1))).setCell ⟨b, 6, none⟩ (.string (bytesOf j.work))).setCell ⟨b, 7, none⟩ (.string (bytesOf j.point))).setCell ⟨b, 8, none⟩ (.string (bytesOf j.result))) b { j with tries := j.tries + 1, state := 2 } := nine_heap HX5.out rfl _ _ _ _ _ _ _ _ _
   have hll := HL5.out.nine (.int .i64 j.id) (.string (bytesOf j.client)) (.string (bytesOf j.token)) (.int .i64 j.prio) (.int .i64 2) (.int .i64 ((j.tries : Int) + 1)) (.string (bytesOf j.work)) (.string (bytesOf j.point)) (.string (bytesOf j.result))
   generalize (((((((((W5.setCell ⟨b, 0, none⟩ (.int .i64 j.id)).setCell ⟨b, 1, none⟩ (.string (bytesOf j.client))).setCell ⟨b, 2, none⟩ (.string (bytesOf j.token))).setCell ⟨b, 3, none⟩ (.int .i64 j.prio)).setCell ⟨b, 4, none⟩ (.int .i64 2)).setCell ⟨b, 5, none⟩ (.int .i64 ((j.tries : Int) + 1))).setCell ⟨b, 6, none⟩ (.string (bytesOf j.work))).setCell ⟨b, 7, none⟩ (.string (bytesOf j.point))).setCell ⟨b, 8, none⟩ (.string (bytesOf j.result))) = w9 at hbx hll ⊢
   clear d0 d1 d2 d3 d4 d5 d6 d7 d8 f0 f1 f2 f3 f4' f5' f6 f7 f8 e0 e1 e2 e3 e4 e5 e6 e7 e8
   obtain ⟨d0, d1, d2, d3, d4, d5, d6, d7, d8⟩ := hbx.all
   rw [HR.out, HLL.out]
   exact bodyPost_ret (v := .tuple #[Jb.val { j with tries := j.tries + 1, state := 2 }, .bool true, .int .i64 0]) (by simp [results, Tryz.results26, go_sem, d0, d1, d2, d3, d4, d5, d6, d7, d8]; rfl) rfl ⟨rfl, _, hll.qd, hll.st⟩
  ·rw [if_neg h0] at hR2
   have HR := Lib.hid hR2
   have h0' : (n1 == 0) = false := by rw [beq_eq_false_iff_ne]; exact h0
   clear hR2 h0
   go_wp2_with fail
   refine (HRC.out wr).mono ?_
   rintro e w2 ⟨rfl, hb2⟩
   have HL2 := Lib.hid (hL.out.below hb2)
   have HX2 := Lib.hid (hX.out.below hb2)
   clear hb2 c0 y1
   go_wp2_with fail
   refine (HN2.out w2 HL2.out.qd).mono ?_
   rintro e w3 ⟨rfl, hq3, hk3⟩
   have hx3 : BoxAt w3 b Jb.none_ := (hk3.block _ (lt_of_heap HX2.out) HL2.out.nb).trans HX2.out
   have hst3 := HL2.out.st.trans (RStp.of_kp hk3)
   have HX3 := Lib.hid hx3
   have HL3 : Hid (RLeft P (.slice (some ⟨g, 0, none⟩) x.q.jobs.length vc) n2 w b w3) := ⟨hq3, hst3, HL2.out.nb, HL2.out.wb⟩
   obtain ⟨d0, d1, d2, d3, d4, d5, d6, d7, d8⟩ := hx3.all
   obtain ⟨f0, f1, f2, f3, f4, f5, f6, f7, f8⟩ := hx3.free
   clear hq3 hk3 hst3 hx3
   go_wp2_with fail
   have hbx : BoxAt (((((((((w3.setCell ⟨b, 0, none⟩ (.int .i64 0)).setCell ⟨b, 1, none⟩ (.string { data := #[] })).setCell ⟨b, 2, none⟩ (.string { data := #[] })).setCell ⟨b, 3, none⟩ (.int .i64 0)).setCell ⟨b, 4, none⟩ (.int .i64 0)).setCell ⟨b, 5, none⟩ (.int .i64 0)).setCell ⟨b, 6, none⟩ (.string { data := #[] })).setCell ⟨b, 7, none⟩ (.string { data := #[] })).setCell ⟨b, 8, none⟩ (.string { data := #[] })) b Jb.none_ := nine_heap HX3.out rfl _ _ _ _ _ _ _ _ _
   have hll := HL3.out.nine (.int .i64 0) (.string { data := #[] }) (.string { data := #[] }) (.int .i64 0) (.int .i64 0) (.int .i64 0) (.string { data := #[] }) (.string { data := #[] }) (.string { data := #[] })
   generalize (((((((((w3.setCell ⟨b, 0, none⟩ (.int .i64 0)).setCell ⟨b, 1, none⟩ (.string { data := #[] })).setCell ⟨b, 2, none⟩ (.string { data := #[] })).setCell ⟨b, 3, none⟩ (.int .i64 0)).setCell ⟨b, 4, none⟩ (.int .i64 0)).setCell ⟨b, 5, none⟩ (.int .i64 0)).setCell ⟨b, 6, none⟩ (.string { data := #[] })).setCell ⟨b, 7, none⟩ (.string { data := #[] })).setCell ⟨b, 8, none⟩ (.string { data := #[] })) = w9 at hbx hll ⊢
   clear d0 d1 d2 d3 d4 d5 d6 d7 d8 f0 f1 f2 f3 f4 f5 f6 f7 f8
   obtain ⟨d0, d1, d2, d3, d4, d5, d6, d7, d8⟩ := hbx.all
   rw [HR.out]
   exact bodyPost_ret (v := .tuple #[Jb.none_.val, .bool false, .int .i64 n1]) (by simp [results, Tryz.results26, go_sem, d0, d1, d2, d3, d4, d5, d6, d7, d8]; rfl) rfl ⟨rfl, _, hll.qd, hll.st⟩
end
/- Walks: the reference's queue of jobs: a record is read. Printed by gen_rc4.py. -/
section
open Go.RowKit Go.Shelf
theorem text_of {s c r : List UInt8} {b : Bool} {m : Nat} (h : (c, r, b) = textR s m) : (b = true → takeT s m = none) ∧ (b = false → takeT s m = some (c, r)) := by
 unfold textR at h
 cases e : takeT s m with
 | none =>
  rw [e] at h
  injection h with h1 h2
  injection h2 with h2 h3
  subst h3
  exact ⟨fun _ => rfl, (fun z => by cases z)⟩
 | some x =>
  obtain ⟨a, d⟩ := x
  rw [e] at h
  injection h with h1 h2
  injection h2 with h2 h3
  dsimp only at h1 h2
  subst h1 h2 h3
  exact ⟨(fun z => by cases z), fun _ => rfl⟩
theorem RQueueAt.kp {w w' : World} {p r : Nat} {dp v : Value} {last : Int} {down : Bool} (h : RQueueAt w p dp v last down) (hk : Kp (fun k => k = r) w w') (hn : ¬ p = r) : RQueueAt w' p dp v last down := (hk.block p (lt_of_heap h) hn).trans h
theorem rfread_3 (B p : Nat) (dp v : Value) (q : Qs) (s : List UInt8) (w : World) (hq : RQueueAt w p dp v q.last false) (hv : w.owns B 48 9 v q.jobs.length (jobsL q.jobs)) (hB : B ≤ p) (hB2 : B ≤ w.heap.size) (ho : q.ok) (hs : s.length ≤ 1000000) {id : Nat} {s1 s2 : List UInt8} (h1 : takeN s 1 = some (3, s1)) (h2 : takeN s1 8 = some (id, s2)) (hid : id < 9223372036854775808) (hz : ¬ id = 0) {k : Nat} {j : Jb} (hat : q.at id = some k) (hj : q.jobs[k]? = some j) :
  Calls Tryz.prog 64 #[.pointer (some ⟨p, 0, none⟩), strV s] w (RdP B p dp w (q.one s)) := by
 have hl1 : s1.length ≤ 1000000 := by rw [(takeN_lt h1).2.1, List.length_drop]; omega
 have hl2 : s2.length ≤ 1000000 := by rw [(takeN_lt h2).2.1, List.length_drop]; omega
 have hidp : idI id = (id : Int) := by unfold idI; rw [if_pos hid]
 have hid1 : idI 3 = (3 : Int) := rfl
 have e1 : numR s 1 = ((3 : Int), s1, false) := by unfold numR; rw [h1]; dsimp only; rw [hid1]
 have e2 : numR s1 8 = ((id : Int), s2, false) := by unfold numR; rw [h2]; dsimp only; rw [hidp]
 have hn0 : ¬ (id : Int) < 0 := by omega
 have hz' : ((id : Int) == 0) = false := by rw [beq_eq_false_iff_ne]; omega
 have HJ := Lib.hid hj
 have HAT := Lib.hid hat
 have HHO := Lib.hid (one_of (q := q) h1 h2 (by omega) hid (.inl (by omega)))
 have htr := (ho.job j (List.mem_of_getElem? hj)).tr
 clear hj hat
 have HQ := Lib.hid hq
 have HV := Lib.hid hv
 obtain ⟨r0, b0⟩ := rd_new w s
 obtain ⟨W0, hW0⟩ : ∃ W, W = w.alloc (.cells #[.string (bytesOf s), .bool false] 139) := ⟨_, rfl⟩
 rw [← hW0] at r0 b0
 have HW0 := Lib.hid hW0
 have HN1 := Lib.hid (rfnum_any w.heap.size 1 s false (by omega) (by omega) W0 r0)
 rw [e1] at HN1
 have HB0 := Lib.hid b0
 have HOK := Lib.hid ho
 have hpw : p < w.heap.size := lt_of_heap hq
 have HLEN : Hid (p < w.heap.size ∧ B ≤ p ∧ s.length ≤ 1000000) := ⟨hpw, hB, hs⟩
 obtain ⟨pr, hpr⟩ : ∃ pr, pr = w.heap.size := ⟨_, rfl⟩
 rw [← hpr] at HN1
 have HPR := Lib.hid hpr
 clear hq hv r0 b0 hW0 ho hpw hpr hB hs
 unfold strV
 go_enter Tryz.func64, Tryz.ntmps64
 go_upto_region 2 with fail
 rw [← HW0.out, ← HPR.out]
 go_wp2_with fail
 refine (show Calls Tryz.prog 107 #[.pointer (some ⟨pr, 0, none⟩), .int .i64 1] W0 _ from HN1.out).mono ?_
 rintro e w1 ⟨rfl, hr1, hk1⟩
 have HB1 : Hid (Below w.heap.size w w1) := rd_kp HB0.out hk1 HB0.out.size (by rw [HPR.out]; exact Nat.le_refl _)
 have HN2 := Lib.hid (rfnum_any pr 8 _ _ (by omega) (by have := HLEN.out; omega) w1 hr1)
 rw [e2] at HN2
 clear hr1 hk1 HN1
 go_wp2_with fail
 refine (show Calls Tryz.prog 107 #[.pointer (some ⟨pr, 0, none⟩), .int .i64 8] w1 _ from HN2.out).mono ?_
 rintro e w2 ⟨rfl, hr2, hk2⟩
 have HB2 : Hid (Below w.heap.size w w2) := rd_kp HB1.out hk2 HB1.out.size (by rw [HPR.out]; exact Nat.le_refl _)
 obtain ⟨c0, c1, f0, f1⟩ := hr2.cells
 have HR2 := Lib.hid hr2
 clear hk2 HN2 hr2
 obtain ⟨k0, k1, k2, k3, g1, g2, g3⟩ := (HQ.out.below HB2.out).cells
 have HA := Lib.hid (rfat_any p dp v q.last false q.jobs (id : Int) w2 (HQ.out.below HB2.out) (World.owns.mono (HV.out.below HB2.out) (Nat.zero_le _)) (by have := HOK.out.len; omega))
 rw [at_int, show (q.jobs.findIdx? fun j => decide (j.id = id)) = some k from HAT.out] at HA
 rw [show placeI (some k) = (k : Int) from rfl] at HA
 obtain ⟨g, cap, rfl, hgl, d0, d1, d2, d3, d4, d5, d6, d7, d8⟩ := JobsAt.cells (w := w2) (v := v) (js := q.jobs) (World.owns.mono (HV.out.below HB2.out) (Nat.zero_le _)) k j HJ.out
 obtain ⟨m, hm⟩ : ∃ m, m = q.jobs.length := ⟨_, rfl⟩
 rw [← hm] at k1
 have HM := Lib.hid hm
 have hkm : k < m := by rw [hm]; exact (List.getElem?_eq_some_iff.1 HJ.out).1
 have HGB : Hid (B ≤ g ∧ g < w.heap.size) := HV.out.lt g rfl
 have HES := Lib.hid (rfended_any j.state w2)
 clear hm hgl d0 d1 d2 d3 d6 d8
 go_wp2_with fail
 refine HA.out.mono ?_
 rintro e w3 ⟨rfl, rfl⟩
 cases hen : endedB j.state with
 | true =>
  rw [hen] at HES
  have HEN := Lib.hid hen
  clear hen
  have HO : Hid (q.one s = none) := by
   show _ = _
   rw [HHO.out]
   unfold rdK rd3
   rw [if_neg (by decide), if_neg (by decide), if_pos rfl, HAT.out, Option.bind_some, HJ.out, Option.bind_some, if_neg (by rintro ⟨z, -⟩; rw [HEN.out] at z; cases z)]
   rfl
  go_wp2_with fail
  refine HES.out.mono ?_
  rintro e w4 ⟨rfl, rfl⟩
  go_wp2_with fail
  go_ret
  rw [HO.out]
  exact ⟨HB2.out.mono hB2, rfl⟩
 | false =>
  rw [hen] at HES
  have HEN := Lib.hid hen
  clear hen
  obtain ⟨⟨c, r, bb⟩, hx⟩ : ∃ x, x = textR s2 60000 := ⟨_, rfl⟩
  have HX := Lib.hid (text_of hx)
  have HT := Lib.hid (rftext_any pr 60000 s2 false (by omega) (by omega) w3 (show RdAt w3 pr s2 false from HR2.out))
  rw [← hx] at HT
  unfold strV at HT
  dsimp only at HT
  clear hx
  go_wp2_with fail
  refine HES.out.mono ?_
  rintro e w4 ⟨rfl, rfl⟩
  go_wp2_with fail
  refine (show Calls Tryz.prog 108 #[.pointer (some ⟨pr, 0, none⟩), .int .i64 60000] w4 _ from HT.out).mono ?_
  rintro e w5 ⟨rfl, hr5, hk5⟩
  have hgp : ¬ g = pr := by have := HGB.out.2; have := HPR.out; omega
  have hppr : ¬ p = pr := by have := HLEN.out.1; have := HPR.out; omega
  have hv5 : w5.owns B 48 9 (.slice (some ⟨g, 0, none⟩) q.jobs.length cap) q.jobs.length (jobsL q.jobs) := owns_kp (HV.out.below HB2.out) hk5 (fun e => hgp (by injection e))
  have hq5 : RQueueAt w5 p dp (.slice (some ⟨g, 0, none⟩) q.jobs.length cap) q.last false := (HQ.out.below HB2.out).kp hk5 hppr
  have hb5 : Below w.heap.size w w5 := rd_kp HB2.out hk5 HB2.out.size (by rw [HPR.out]; exact Nat.le_refl _)
  obtain ⟨g', cap', eg, -, -, -, -, -, -, -, -, e7, -⟩ := JobsAt.cells (w := w5) (js := q.jobs) (World.owns.mono hv5 (Nat.zero_le _)) k j HJ.out
  injection eg with eg _ _
  injection eg with eg
  injection eg with eg
  subst eg
  have hfr := owns_unfrozen hv5 (k * 9 + 7) (by have := HM.out; omega)
  have HR5 := Lib.hid hr5
  have HV5 := Lib.hid hv5
  have HQ5 := Lib.hid hq5
  have HB5 := Lib.hid hb5
  clear hr5 hk5 hv5 hq5 hb5 c0 c1 f0 f1 d4 d5 d7
  go_upto_region 27 with fail
  obtain ⟨W8, hW8⟩ : ∃ W, W = w5.setCell ⟨g, k * 9 + 7, none⟩ (.string (bytesOf c)) := ⟨_, rfl⟩
  rw [← hW8]
  have hr8 : RdAt W8 pr r bb := by rw [hW8]; exact RdAt.other (by simpa using HR5.out) (a := ⟨g, k * 9 + 7, none⟩) hgp _
  have hq8 : RQueueAt W8 p dp (.slice (some ⟨g, 0, none⟩) q.jobs.length cap) q.last false := by rw [hW8]; exact RQueueAt.other HQ5.out (a := ⟨g, k * 9 + 7, none⟩) (fun e => HQ5.out.ne HV5.out (by rw [← e]; rfl)) _
  have hv8 : W8.owns B 48 9 (.slice (some ⟨g, 0, none⟩) q.jobs.length cap) q.jobs.length (jobsL (q.jobs.set k { j with point := c })) := by
   have hn := owns_setAny HV5.out (k * 9 + 7) (.string (bytesOf c))
   rw [← jobsL_set q.jobs k j { j with point := c } HJ.out 7 (by omega) (.string (bytesOf c)) (by rfl)] at hn
   rw [hW8]
   exact hn
  have hb8 : Below B w W8 := by rw [hW8]; exact (HB5.out.mono hB2).setCell (p := ⟨g, k * 9 + 7, none⟩) HGB.out.1 _
  have hj8 : (q.jobs.set k { j with point := c })[k]? = some { j with point := c } := by
   rw [List.getElem?_set_self (List.getElem?_eq_some_iff.1 HJ.out).1]
  have hv9 : W8.owns 0 48 9 (.slice (some ⟨g, 0, none⟩) q.jobs.length cap) (q.jobs.set k { j with point := c }).length (jobsL (q.jobs.set k { j with point := c })) := by rw [List.length_set]; exact World.owns.mono hv8 (Nat.zero_le _)
  obtain ⟨g', cap', eg, -, -, -, -, -, -, x5, -, -, -⟩ := JobsAt.cells hv9 k _ hj8
  injection eg with eg _ _
  injection eg with eg
  injection eg with eg
  subst eg
  dsimp only at x5
  obtain ⟨c0, c1, f0, f1⟩ := hr8.cells
  have HQ8 := Lib.hid hq8
  have HV8 := Lib.hid hv8
  have HB8 := Lib.hid hb8
  clear hW8 hr8 hq8 hv8 hv9 hb8 hj8 k0 k1 k2 k3 g1 g2 g3 e7 hfr
  cases bb with
  | true =>
   have HO : Hid (q.one s = none) := by
    show _ = _
    rw [HHO.out]
    unfold rdK rd3
    rw [if_neg (by decide), if_neg (by decide), if_pos rfl, HAT.out, Option.bind_some, HJ.out, Option.bind_some]
    rw [HX.out.1 rfl]
    split <;> rfl
   go_wp2_with fail
   go_ret
   rw [HO.out]
   exact ⟨HB8.out, rfl⟩
  | false =>
   by_cases he : r = []
   ·obtain ⟨t1, t2⟩ := empty_eq he
    have HHE := Lib.hid he
    clear he
    by_cases h8 : 0 < j.tries
    ·have h8' : (1 : Int) ≤ (j.tries : Int) := by omega
     have HO : Hid (q.one s = some (q.put k { j with point := c })) := by
      show _ = _
      rw [HHO.out]
      unfold rdK rd3
      rw [if_neg (by decide), if_neg (by decide), if_pos rfl, HAT.out, Option.bind_some, HJ.out, Option.bind_some, if_pos ⟨HEN.out, h8⟩, HX.out.2 rfl, Option.bind_some, Option.bind_some]
      exact if_pos HHE.out
     clear h8
     go_wp2_with fail
     go_ret
     rw [HO.out]
     refine ⟨HB8.out, rfl, _, HQ8.out, ?_⟩
     show World.owns _ _ _ _ _ (q.jobs.set k _).length _
     rw [List.length_set]
     exact HV8.out
    ·have h8' : ¬ (1 : Int) ≤ (j.tries : Int) := by omega
     have HO : Hid (q.one s = none) := by
      show _ = _
      rw [HHO.out]
      unfold rdK rd3
      rw [if_neg (by decide), if_neg (by decide), if_pos rfl, HAT.out, Option.bind_some, HJ.out, Option.bind_some]
      rw [if_neg (by rintro ⟨-, z⟩; exact h8 z)]
      rfl
     clear h8
     go_wp2_with fail
     go_ret
     rw [HO.out]
     exact ⟨HB8.out, rfl⟩
   ·obtain ⟨t1, t2⟩ := empty_ne he
    have HO : Hid (q.one s = none) := by
     show _ = _
     rw [HHO.out]
     unfold rdK rd3
     rw [if_neg (by decide), if_neg (by decide), if_pos rfl, HAT.out, Option.bind_some, HJ.out, Option.bind_some]
     rw [HX.out.2 rfl, Option.bind_some]
     split
     ·rw [Option.bind_some]; exact if_neg he
     ·rfl
    clear he
    go_wp2_with fail
    go_ret
    rw [HO.out]
    exact ⟨HB8.out, rfl⟩
end
/- Walks: the reference's queue of jobs: a record is read. Printed by gen_rc4.py. -/
section
open Go.RowKit Go.Shelf
theorem num_of {s r : List UInt8} {n1 : Int} {b : Bool} (h : (n1, r, b) = numR s 1) : ∃ n : Nat, n1 = (n : Int) ∧ (b = true → takeN s 1 = none) ∧ (b = false → takeN s 1 = some (n, r)) := by
 unfold numR at h
 cases e : takeN s 1 with
 | none =>
  rw [e] at h
  injection h with h1 h2
  injection h2 with h2 h3
  subst h3
  exact ⟨0, h1, fun _ => rfl, (fun z => by cases z)⟩
 | some x =>
  obtain ⟨n, d⟩ := x
  rw [e] at h
  have hn := (takeN_lt e).1
  injection h with h1 h2
  injection h2 with h2 h3
  dsimp only at h1 h2
  subst h2 h3
  exact ⟨n, by rw [h1]; unfold idI; rw [if_pos (by omega)], (fun z => by cases z), fun _ => rfl⟩
theorem rfread_4 (B p : Nat) (dp v : Value) (q : Qs) (s : List UInt8) (w : World) (hq : RQueueAt w p dp v q.last false) (hv : w.owns B 48 9 v q.jobs.length (jobsL q.jobs)) (hB : B ≤ p) (hB2 : B ≤ w.heap.size) (ho : q.ok) (hs : s.length ≤ 1000000) {id : Nat} {s1 s2 : List UInt8} (h1 : takeN s 1 = some (4, s1)) (h2 : takeN s1 8 = some (id, s2)) (hid : id < 9223372036854775808) (hz : ¬ id = 0) {k : Nat} {j : Jb} (hat : q.at id = some k) (hj : q.jobs[k]? = some j) :
  Calls Tryz.prog 64 #[.pointer (some ⟨p, 0, none⟩), strV s] w (RdP B p dp w (q.one s)) := by
 have hl1 : s1.length ≤ 1000000 := by rw [(takeN_lt h1).2.1, List.length_drop]; omega
 have hl2 : s2.length ≤ 1000000 := by rw [(takeN_lt h2).2.1, List.length_drop]; omega
 have hidp : idI id = (id : Int) := by unfold idI; rw [if_pos hid]
 have hid1 : idI 4 = (4 : Int) := rfl
 have e1 : numR s 1 = ((4 : Int), s1, false) := by unfold numR; rw [h1]; dsimp only; rw [hid1]
 have e2 : numR s1 8 = ((id : Int), s2, false) := by unfold numR; rw [h2]; dsimp only; rw [hidp]
 have hn0 : ¬ (id : Int) < 0 := by omega
 have hz' : ((id : Int) == 0) = false := by rw [beq_eq_false_iff_ne]; omega
 have HJ := Lib.hid hj
 have HAT := Lib.hid hat
 have HHO := Lib.hid (one_of (q := q) h1 h2 (by omega) hid (.inl (by omega)))
 have htr := (ho.job j (List.mem_of_getElem? hj)).tr
 clear hj hat
 have HQ := Lib.hid hq
 have HV := Lib.hid hv
 obtain ⟨r0, b0⟩ := rd_new w s
 obtain ⟨W0, hW0⟩ : ∃ W, W = w.alloc (.cells #[.string (bytesOf s), .bool false] 139) := ⟨_, rfl⟩
 rw [← hW0] at r0 b0
 have HW0 := Lib.hid hW0
 have HN1 := Lib.hid (rfnum_any w.heap.size 1 s false (by omega) (by omega) W0 r0)
 rw [e1] at HN1
 have HB0 := Lib.hid b0
 have HOK := Lib.hid ho
 have hpw : p < w.heap.size := lt_of_heap hq
 have HLEN : Hid (p < w.heap.size ∧ B ≤ p ∧ s.length ≤ 1000000) := ⟨hpw, hB, hs⟩
 obtain ⟨pr, hpr⟩ : ∃ pr, pr = w.heap.size := ⟨_, rfl⟩
 rw [← hpr] at HN1
 have HPR := Lib.hid hpr
 clear hq hv r0 b0 hW0 ho hpw hpr hB hs
 unfold strV
 go_enter Tryz.func64, Tryz.ntmps64
 go_upto_region 2 with fail
 rw [← HW0.out, ← HPR.out]
 go_wp2_with fail
 refine (show Calls Tryz.prog 107 #[.pointer (some ⟨pr, 0, none⟩), .int .i64 1] W0 _ from HN1.out).mono ?_
 rintro e w1 ⟨rfl, hr1, hk1⟩
 have HB1 : Hid (Below w.heap.size w w1) := rd_kp HB0.out hk1 HB0.out.size (by rw [HPR.out]; exact Nat.le_refl _)
 have HN2 := Lib.hid (rfnum_any pr 8 _ _ (by omega) (by have := HLEN.out; omega) w1 hr1)
 rw [e2] at HN2
 clear hr1 hk1 HN1
 go_wp2_with fail
 refine (show Calls Tryz.prog 107 #[.pointer (some ⟨pr, 0, none⟩), .int .i64 8] w1 _ from HN2.out).mono ?_
 rintro e w2 ⟨rfl, hr2, hk2⟩
 have HB2 : Hid (Below w.heap.size w w2) := rd_kp HB1.out hk2 HB1.out.size (by rw [HPR.out]; exact Nat.le_refl _)
 obtain ⟨c0, c1, f0, f1⟩ := hr2.cells
 have HR2 := Lib.hid hr2
 clear hk2 HN2 hr2
 obtain ⟨k0, k1, k2, k3, g1, g2, g3⟩ := (HQ.out.below HB2.out).cells
 have HA := Lib.hid (rfat_any p dp v q.last false q.jobs (id : Int) w2 (HQ.out.below HB2.out) (World.owns.mono (HV.out.below HB2.out) (Nat.zero_le _)) (by have := HOK.out.len; omega))
 rw [at_int, show (q.jobs.findIdx? fun j => decide (j.id = id)) = some k from HAT.out] at HA
 rw [show placeI (some k) = (k : Int) from rfl] at HA
 obtain ⟨g, cap, rfl, hgl, d0, d1, d2, d3, d4, d5, d6, d7, d8⟩ := JobsAt.cells (w := w2) (v := v) (js := q.jobs) (World.owns.mono (HV.out.below HB2.out) (Nat.zero_le _)) k j HJ.out
 obtain ⟨m, hm⟩ : ∃ m, m = q.jobs.length := ⟨_, rfl⟩
 rw [← hm] at k1
 have HM := Lib.hid hm
 have hkm : k < m := by rw [hm]; exact (List.getElem?_eq_some_iff.1 HJ.out).1
 have HGB : Hid (B ≤ g ∧ g < w.heap.size) := HV.out.lt g rfl
 have HES := Lib.hid (rfended_any j.state w2)
 clear hm hgl d0 d1 d2 d3 d6 d7 d8
 go_wp2_with fail
 refine HA.out.mono ?_
 rintro e w3 ⟨rfl, rfl⟩
 cases hen : endedB j.state with
 | true =>
  rw [hen] at HES
  have HEN := Lib.hid hen
  clear hen
  have HO : Hid (q.one s = none) := by
   show _ = _
   rw [HHO.out]
   unfold rdK rd4
   rw [if_neg (by decide), if_neg (by decide), if_neg (by decide), if_pos rfl, HAT.out, Option.bind_some, HJ.out, Option.bind_some, if_neg (by intro z; rw [HEN.out] at z; cases z)]
   rfl
  go_wp2_with fail
  refine HES.out.mono ?_
  rintro e w4 ⟨rfl, rfl⟩
  go_wp2_with fail
  go_ret
  rw [HO.out]
  exact ⟨HB2.out.mono hB2, rfl⟩
 | false =>
  rw [hen] at HES
  have HEN := Lib.hid hen
  clear hen
  obtain ⟨⟨n1, r1, b1⟩, hy⟩ : ∃ x, x = numR s2 1 := ⟨_, rfl⟩
  obtain ⟨⟨c, r, b2⟩, hx⟩ : ∃ x, x = textR r1 60000 := ⟨_, rfl⟩
  have hr1l : r1.length ≤ 1000000 := by
   have := numR_len s2 1
   rw [← hy] at this
   dsimp only at this
   omega
  obtain ⟨n, hn1, N1, N2⟩ := num_of hy
  have HX := Lib.hid (text_of hx)
  have HN := Lib.hid (And.intro N1 N2)
  have HNU := Lib.hid (rfnum_any pr 1 s2 false (by omega) (by omega) w3 (show RdAt w3 pr s2 false from HR2.out))
  rw [← hy] at HNU
  dsimp only at HNU
  subst hn1
  have HXE := Lib.hid hx
  clear hx hy N1 N2
  go_wp2_with fail
  refine HES.out.mono ?_
  rintro e w4 ⟨rfl, rfl⟩
  go_wp2_with fail
  refine (show Calls Tryz.prog 107 #[.pointer (some ⟨pr, 0, none⟩), .int .i64 1] w4 _ from HNU.out).mono ?_
  rintro e w5 ⟨rfl, hr5, hk5⟩
  have hgp : ¬ g = pr := by have := HGB.out.2; have := HPR.out; omega
  have hppr : ¬ p = pr := by have := HLEN.out.1; have := HPR.out; omega
  have hv5 : w5.owns B 48 9 (.slice (some ⟨g, 0, none⟩) q.jobs.length cap) q.jobs.length (jobsL q.jobs) := owns_kp (HV.out.below HB2.out) hk5 (fun e => hgp (by injection e))
  have hq5 : RQueueAt w5 p dp (.slice (some ⟨g, 0, none⟩) q.jobs.length cap) q.last false := (HQ.out.below HB2.out).kp hk5 hppr
  have hb5 : Below w.heap.size w w5 := rd_kp HB2.out hk5 HB2.out.size (by rw [HPR.out]; exact Nat.le_refl _)
  obtain ⟨g', cap', eg, -, -, -, -, -, e4, -, -, -, -⟩ := JobsAt.cells (w := w5) (js := q.jobs) (World.owns.mono hv5 (Nat.zero_le _)) k j HJ.out
  injection eg with eg _ _
  injection eg with eg
  injection eg with eg
  subst eg
  have hfr := owns_unfrozen hv5 (k * 9 + 4) (by have := HM.out; omega)
  have HR5 := Lib.hid hr5
  have HV5 := Lib.hid hv5
  have HQ5 := Lib.hid hq5
  have HB5 := Lib.hid hb5
  clear hr5 hk5 hv5 hq5 hb5 c0 c1 f0 f1 d4 d5
  go_upto_region 30 with fail
  obtain ⟨W6, hW6⟩ : ∃ W, W = w5.setCell ⟨g, k * 9 + 4, none⟩ (.int .i64 (n : Int)) := ⟨_, rfl⟩
  rw [← hW6]
  have hr6 : RdAt W6 pr r1 b1 := by rw [hW6]; exact RdAt.other (by simpa using HR5.out) (a := ⟨g, k * 9 + 4, none⟩) hgp _
  have hq6 : RQueueAt W6 p dp (.slice (some ⟨g, 0, none⟩) q.jobs.length cap) q.last false := by rw [hW6]; exact RQueueAt.other HQ5.out (a := ⟨g, k * 9 + 4, none⟩) (fun e => HQ5.out.ne HV5.out (by rw [← e]; rfl)) _
  have hv6 : W6.owns B 48 9 (.slice (some ⟨g, 0, none⟩) q.jobs.length cap) q.jobs.length (jobsL (q.jobs.set k { j with state := n })) := by
   have hn := owns_setAny HV5.out (k * 9 + 4) (.int .i64 (n : Int))
   rw [← jobsL_set q.jobs k j { j with state := n } HJ.out 4 (by omega) (.int .i64 (n : Int)) (by rfl)] at hn
   rw [hW6]
   exact hn
  have hb6 : Below w.heap.size w W6 ∨ True := .inr trivial
  have hbB6 : Below B w W6 ∧ B ≤ W6.heap.size := by rw [hW6]; exact ⟨(HB5.out.mono hB2).setCell (p := ⟨g, k * 9 + 4, none⟩) HGB.out.1 _, by have := HB5.out.size; simp; omega⟩
  have hj6 : (q.jobs.set k { j with state := n })[k]? = some { j with state := n } := by
   rw [List.getElem?_set_self (List.getElem?_eq_some_iff.1 HJ.out).1]
  have HT := Lib.hid (rftext_any pr 60000 r1 b1 (by omega) (by omega) W6 hr6)
  rw [← HXE.out] at HT
  unfold strV at HT
  dsimp only at HT
  have HQ6 := Lib.hid hq6
  have HV6 := Lib.hid hv6
  have HB6 := Lib.hid hbB6
  have HJ6 := Lib.hid hj6
  clear hW6 hr6 hq6 hv6 hb6 hbB6 hj6 e4 hfr
  go_wp2_with fail
  refine (show Calls Tryz.prog 108 #[.pointer (some ⟨pr, 0, none⟩), .int .i64 60000] W6 _ from HT.out).mono ?_
  rintro e w7 ⟨rfl, hr7, hk7⟩
  have hv7 : w7.owns B 48 9 (.slice (some ⟨g, 0, none⟩) q.jobs.length cap) q.jobs.length (jobsL (q.jobs.set k { j with state := n })) := owns_kp HV6.out hk7 (fun e => hgp (by injection e))
  have hq7 : RQueueAt w7 p dp (.slice (some ⟨g, 0, none⟩) q.jobs.length cap) q.last false := HQ6.out.kp hk7 hppr
  have hb7 : Below B w w7 := rd_kp HB6.out.1 hk7 HB6.out.2 (by have := HPR.out; omega)
  have hv7' : w7.owns 0 48 9 (.slice (some ⟨g, 0, none⟩) q.jobs.length cap) (q.jobs.set k { j with state := n }).length (jobsL (q.jobs.set k { j with state := n })) := by rw [List.length_set]; exact World.owns.mono hv7 (Nat.zero_le _)
  obtain ⟨g', cap', eg, -, -, -, -, -, -, -, -, -, e8⟩ := JobsAt.cells (w := w7) (js := q.jobs.set k { j with state := n }) hv7' k _ HJ6.out
  injection eg with eg _ _
  injection eg with eg
  injection eg with eg
  subst eg
  have hfr := owns_unfrozen hv7 (k * 9 + 8) (by have := HM.out; omega)
  have HR7 := Lib.hid hr7
  have HV7 := Lib.hid hv7
  have HQ7 := Lib.hid hq7
  have HB7 := Lib.hid hb7
  clear hr7 hk7 hv7 hq7 hb7 hv7'
  go_upto_region 31 with fail
  obtain ⟨W8, hW8⟩ : ∃ W, W = w7.setCell ⟨g, k * 9 + 8, none⟩ (.string (bytesOf c)) := ⟨_, rfl⟩
  rw [← hW8]
  obtain ⟨bb, hbb⟩ : ∃ bb, bb = (b1 || b2) := ⟨_, rfl⟩
  have hr8 : RdAt W8 pr r bb := by rw [hW8, hbb]; exact RdAt.other HR7.out (a := ⟨g, k * 9 + 8, none⟩) hgp _
  have hq8 : RQueueAt W8 p dp (.slice (some ⟨g, 0, none⟩) q.jobs.length cap) q.last false := by rw [hW8]; exact RQueueAt.other HQ7.out (a := ⟨g, k * 9 + 8, none⟩) (fun e => HQ7.out.ne HV7.out (by rw [← e]; rfl)) _
  have hv8 : W8.owns B 48 9 (.slice (some ⟨g, 0, none⟩) q.jobs.length cap) q.jobs.length (jobsL (q.jobs.set k { j with state := n, result := c })) := by
   have hn := owns_setAny HV7.out (k * 9 + 8) (.string (bytesOf c))
   rw [← jobsL_set (q.jobs.set k { j with state := n }) k { j with state := n } { j with state := n, result := c } HJ6.out 8 (by omega) (.string (bytesOf c)) (by rfl), List.set_set] at hn
   rw [hW8]
   exact hn
  have hb8 : Below B w W8 := by rw [hW8]; exact HB7.out.setCell (p := ⟨g, k * 9 + 8, none⟩) HGB.out.1 _
  have hj8 : (q.jobs.set k { j with state := n, result := c })[k]? = some { j with state := n, result := c } := by
   rw [List.getElem?_set_self (List.getElem?_eq_some_iff.1 HJ.out).1]
  have hv9 : W8.owns 0 48 9 (.slice (some ⟨g, 0, none⟩) q.jobs.length cap) (q.jobs.set k { j with state := n, result := c }).length (jobsL (q.jobs.set k { j with state := n, result := c })) := by rw [List.length_set]; exact World.owns.mono hv8 (Nat.zero_le _)
  obtain ⟨g', cap', eg, -, -, -, -, -, x4, -, -, -, -⟩ := JobsAt.cells (w := W8) (js := q.jobs.set k { j with state := n, result := c }) hv9 k _ hj8
  injection eg with eg _ _
  injection eg with eg
  injection eg with eg
  subst eg
  dsimp only at x4
  obtain ⟨c0, c1, f0, f1⟩ := hr8.cells
  have HQ8 := Lib.hid hq8
  have HV8 := Lib.hid hv8
  have HB8 := Lib.hid hb8
  have HBB := Lib.hid hbb
  have HE2 := Lib.hid (rfended_any n W8)
  clear hW8 hr8 hq8 hv8 hv9 hb8 hj8 k0 k1 k2 k3 g1 g2 g3 e8 hfr hbb
  cases bb with
  | true =>
   have HO : Hid (q.one s = none) := by
    show _ = _
    rw [HHO.out]
    unfold rdK rd4
    rw [if_neg (by decide), if_neg (by decide), if_neg (by decide), if_pos rfl, HAT.out, Option.bind_some, HJ.out, Option.bind_some, if_pos HEN.out]
    have hb := HBB.out
    cases b1 with
    | true => rw [HN.out.1 rfl]; rfl
    | false =>
     have hb2 : b2 = true := by simpa using hb.symm
     rw [HN.out.2 rfl, Option.bind_some]
     dsimp only
     rw [HX.out.1 hb2]
     rfl
   go_wp2_with fail
   go_ret
   rw [HO.out]
   exact ⟨HB8.out, rfl⟩
  | false =>
   have HBF : Hid (b1 = false ∧ b2 = false) := by
    have hb := HBB.out
    cases b1 with
    | true => simp at hb
    | false => exact ⟨rfl, by simpa using hb.symm⟩
   by_cases he : r = []
   ·obtain ⟨t1, t2⟩ := empty_eq he
    have HHE := Lib.hid he
    clear he
    cases h8 : endedB n with
    | true =>
     rw [h8] at HE2
     have HO : Hid (q.one s = some (q.put k { j with state := n, result := c })) := by
      show _ = _
      rw [HHO.out]
      unfold rdK rd4
      rw [if_neg (by decide), if_neg (by decide), if_neg (by decide), if_pos rfl, HAT.out, Option.bind_some, HJ.out, Option.bind_some, if_pos HEN.out, HN.out.2 HBF.out.1, Option.bind_some]
      dsimp only
      rw [HX.out.2 HBF.out.2, Option.bind_some]
      dsimp only
      rw [if_pos h8, Option.bind_some]
      exact if_pos HHE.out
     clear h8
     go_wp2_with fail
     refine HE2.out.mono ?_
     rintro e wz ⟨rfl, rfl⟩
     go_wp2_with fail
     go_ret
     rw [HO.out]
     refine ⟨HB8.out, rfl, _, HQ8.out, ?_⟩
     show World.owns _ _ _ _ _ (q.jobs.set k _).length _
     rw [List.length_set]
     exact HV8.out
    | false =>
     rw [h8] at HE2
     have HO : Hid (q.one s = none) := by
      show _ = _
      rw [HHO.out]
      unfold rdK rd4
      rw [if_neg (by decide), if_neg (by decide), if_neg (by decide), if_pos rfl, HAT.out, Option.bind_some, HJ.out, Option.bind_some, if_pos HEN.out]
      rw [HN.out.2 HBF.out.1, Option.bind_some]
      dsimp only
      rw [HX.out.2 HBF.out.2, Option.bind_some]
      dsimp only
      rw [if_neg (by intro z; rw [h8] at z; cases z)]
      rfl
     clear h8
     go_wp2_with fail
     refine HE2.out.mono ?_
     rintro e wz ⟨rfl, rfl⟩
     go_wp2_with fail
     go_ret
     rw [HO.out]
     exact ⟨HB8.out, rfl⟩
   ·obtain ⟨t1, t2⟩ := empty_ne he
    have HO : Hid (q.one s = none) := by
     show _ = _
     rw [HHO.out]
     unfold rdK rd4
     rw [if_neg (by decide), if_neg (by decide), if_neg (by decide), if_pos rfl, HAT.out, Option.bind_some, HJ.out, Option.bind_some, if_pos HEN.out]
     rw [HN.out.2 HBF.out.1, Option.bind_some]
     dsimp only
     rw [HX.out.2 HBF.out.2, Option.bind_some]
     dsimp only
     split
     ·rw [Option.bind_some]; exact if_neg he
     ·rfl
    clear he
    go_wp2_with fail
    go_ret
    rw [HO.out]
    exact ⟨HB8.out, rfl⟩
end
/- Walks: the reference's queue of jobs: a record is read by a queue that has no jobs. -/
section
open Go.RowKit Go.Shelf
theorem one_no {q : Qs} {s : List UInt8} (h : takeN s 1 = none ∨ ∃ k s1, takeN s 1 = some (k, s1) ∧ (k < 1 ∨ 6 < k ∨ takeN s1 8 = none ∨ ∃ id s2, takeN s1 8 = some (id, s2) ∧ (¬ id < 9223372036854775808 ∨ (id = 0 ∧ ¬ k = 6)))) : q.one s = none := by
 unfold Qs.one
 rcases h with h | ⟨k, s1, h, h2⟩
 ·rw [h]; rfl
 ·rw [h, Option.bind_some]
  dsimp only
  split
  ·rename_i hk
   rcases h2 with h2 | h2 | h2 | ⟨id, s2, h2, h3⟩
   ·omega
   ·omega
   ·rw [h2]; rfl
   ·rw [h2, Option.bind_some]
    dsimp only
    rw [if_neg]
    rintro ⟨z1, z2⟩
    rcases h3 with h3 | ⟨h3, h4⟩
    ·exact h3 z1
    ·rcases z2 with z2 | z2
     ·omega
     ·exact h4 z2
  ·rfl
end
/- Walks: the reference's queue of jobs: a record is read: kind 5, and all kinds. Printed by gen_rdc.py. -/
section
open Go.RowKit Go.Shelf
theorem rfread_5 (B p : Nat) (dp v : Value) (q : Qs) (s : List UInt8) (w : World) (hq : RQueueAt w p dp v q.last false) (hv : w.owns B 48 9 v q.jobs.length (jobsL q.jobs)) (hB : B ≤ p) (hB2 : B ≤ w.heap.size) (ho : q.ok) (hs : s.length ≤ 1000000) {id : Nat} {s1 s2 : List UInt8} (h1 : takeN s 1 = some (5, s1)) (h2 : takeN s1 8 = some (id, s2)) (hid : id < 9223372036854775808) (hz : ¬ id = 0) {k : Nat} {j : Jb} (hat : q.at id = some k) (hj : q.jobs[k]? = some j) :
  Calls Tryz.prog 64 #[.pointer (some ⟨p, 0, none⟩), strV s] w (RdP B p dp w (q.one s)) := by
 have hl1 : s1.length ≤ 1000000 := by rw [(takeN_lt h1).2.1, List.length_drop]; omega
 have hl2 : s2.length ≤ 1000000 := by rw [(takeN_lt h2).2.1, List.length_drop]; omega
 have hidp : idI id = (id : Int) := by unfold idI; rw [if_pos hid]
 have hid1 : idI 5 = (5 : Int) := rfl
 have e1 : numR s 1 = ((5 : Int), s1, false) := by unfold numR; rw [h1]; dsimp only; rw [hid1]
 have e2 : numR s1 8 = ((id : Int), s2, false) := by unfold numR; rw [h2]; dsimp only; rw [hidp]
 have hn0 : ¬ (id : Int) < 0 := by omega
 have hz' : ((id : Int) == 0) = false := by rw [beq_eq_false_iff_ne]; omega
 have HJ := Lib.hid hj
 have HAT := Lib.hid hat
 have HHO := Lib.hid (one_of (q := q) h1 h2 (by omega) hid (.inl (by omega)))
 have htr := (ho.job j (List.mem_of_getElem? hj)).tr
 clear hj hat
 have HQ := Lib.hid hq
 have HV := Lib.hid hv
 obtain ⟨r0, b0⟩ := rd_new w s
 obtain ⟨W0, hW0⟩ : ∃ W, W = w.alloc (.cells #[.string (bytesOf s), .bool false] 139) := ⟨_, rfl⟩
 rw [← hW0] at r0 b0
 have HW0 := Lib.hid hW0
 have HN1 := Lib.hid (rfnum_any w.heap.size 1 s false (by omega) (by omega) W0 r0)
 rw [e1] at HN1
 have HB0 := Lib.hid b0
 have HOK := Lib.hid ho
 have hpw : p < w.heap.size := lt_of_heap hq
 have HLEN : Hid (p < w.heap.size ∧ B ≤ p ∧ s.length ≤ 1000000) := ⟨hpw, hB, hs⟩
 obtain ⟨pr, hpr⟩ : ∃ pr, pr = w.heap.size := ⟨_, rfl⟩
 rw [← hpr] at HN1
 have HPR := Lib.hid hpr
 clear hq hv r0 b0 hW0 ho hpw hpr hB hs
 unfold strV
 go_enter Tryz.func64, Tryz.ntmps64
 go_upto_region 2 with fail
 rw [← HW0.out, ← HPR.out]
 go_wp2_with fail
 refine (show Calls Tryz.prog 107 #[.pointer (some ⟨pr, 0, none⟩), .int .i64 1] W0 _ from HN1.out).mono ?_
 rintro e w1 ⟨rfl, hr1, hk1⟩
 have HB1 : Hid (Below w.heap.size w w1) := rd_kp HB0.out hk1 HB0.out.size (by rw [HPR.out]; exact Nat.le_refl _)
 have HN2 := Lib.hid (rfnum_any pr 8 _ _ (by omega) (by have := HLEN.out; omega) w1 hr1)
 rw [e2] at HN2
 clear hr1 hk1 HN1
 go_wp2_with fail
 refine (show Calls Tryz.prog 107 #[.pointer (some ⟨pr, 0, none⟩), .int .i64 8] w1 _ from HN2.out).mono ?_
 rintro e w2 ⟨rfl, hr2, hk2⟩
 have HB2 : Hid (Below w.heap.size w w2) := rd_kp HB1.out hk2 HB1.out.size (by rw [HPR.out]; exact Nat.le_refl _)
 obtain ⟨c0, c1, f0, f1⟩ := hr2.cells
 have HR2 := Lib.hid hr2
 clear hk2 HN2 hr2
 obtain ⟨k0, k1, k2, k3, g1, g2, g3⟩ := (HQ.out.below HB2.out).cells
 have HA := Lib.hid (rfat_any p dp v q.last false q.jobs (id : Int) w2 (HQ.out.below HB2.out) (World.owns.mono (HV.out.below HB2.out) (Nat.zero_le _)) (by have := HOK.out.len; omega))
 rw [at_int, show (q.jobs.findIdx? fun j => decide (j.id = id)) = some k from HAT.out] at HA
 rw [show placeI (some k) = (k : Int) from rfl] at HA
 obtain ⟨g, cap, rfl, hgl, d0, d1, d2, d3, d4, d5, d6, d7, d8⟩ := JobsAt.cells (w := w2) (v := v) (js := q.jobs) (World.owns.mono (HV.out.below HB2.out) (Nat.zero_le _)) k j HJ.out
 obtain ⟨m, hm⟩ : ∃ m, m = q.jobs.length := ⟨_, rfl⟩
 rw [← hm] at k1
 have HM := Lib.hid hm
 have hkm : k < m := by rw [hm]; exact (List.getElem?_eq_some_iff.1 HJ.out).1
 have HGB : Hid (B ≤ g ∧ g < w.heap.size) := HV.out.lt g rfl
 have HES := Lib.hid (rfended_any j.state w2)
 clear hm hgl d0 d1 d2 d3 d6 d7 d8
 go_wp2_with fail
 refine HA.out.mono ?_
 rintro e w3 ⟨rfl, rfl⟩
 cases hen : endedB j.state with
 | false =>
  rw [hen] at HES
  have HEN := Lib.hid hen
  clear hen
  have HO : Hid (q.one s = none) := by
   show _ = _
   rw [HHO.out]
   unfold rdK rd5
   rw [if_neg (by decide), if_neg (by decide), if_neg (by decide), if_neg (by decide), if_pos rfl, HAT.out, Option.bind_some, HJ.out, Option.bind_some, if_neg (by rintro z; rw [HEN.out] at z; cases z)]
   rfl
  go_wp2_with fail
  refine HES.out.mono ?_
  rintro e w4 ⟨rfl, rfl⟩
  go_wp2_with fail
  go_ret
  rw [HO.out]
  exact ⟨HB2.out.mono hB2, rfl⟩
 | true =>
  rw [hen] at HES
  have HEN := Lib.hid hen
  clear hen
  go_wp2_with fail
  refine HES.out.mono ?_
  rintro e w4 ⟨rfl, rfl⟩
  go_upto_region 32 with fail
  obtain ⟨js, hjs⟩ : ∃ js, js = q.jobs := ⟨_, rfl⟩
  have RQ : Hid (RQueueAt w4 p dp (.slice (some ⟨g, 0, none⟩) m cap) q.last false) := by rw [HM.out]; exact HQ.out.below HB2.out
  have OWN : Hid (w4.owns 0 48 9 (.slice (some ⟨g, 0, none⟩) m cap) m (jobsL js)) := by rw [HM.out, hjs]; exact World.owns.mono (HV.out.below HB2.out) (Nat.zero_le _)
  obtain ⟨n, hn⟩ : ∃ n, n = m := ⟨_, rfl⟩
  have HJS := Lib.hid hjs
  rw [← hn] at RQ OWN hkm k1
  have HN : Hid (n = js.length) := by show _ = _; rw [hn, HM.out, hjs]
  have hlen : n ≤ 100 := by have := HOK.out.len; have := HM.out; omega
  have HNM : Hid (n = m) := hn
  have hcap : n ≤ cap := by
   rcases OWN.out.2 with ⟨e, _⟩ | ⟨_, _, _, _, e, _, _, _, hnc, _⟩
   ·cases e
   ·injection e with _ _ e; omega
  have hkn : k < n := hkm
  obtain ⟨kq, hkq⟩ : ∃ kq, kq = k + 1 := ⟨_, rfl⟩
  have HKQ := Lib.hid hkq
  have HPC : Hid ((jobsL (js.take k)).length = k * 9 ∧ (jobsL (js.drop kq)).length = (n - kq) * 9 ∧ (∀ (i : Nat) (u : Value), (jobsL (js.take k))[i]? = some u → (jobsL js)[i]? = some u) ∧ (∀ (i : Nat) (u : Value), (jobsL (js.drop kq))[i]? = some u → (jobsL js)[kq * 9 + i]? = some u) ∧ 0 + k ≤ 100000) := Lib.hid (by rw [hkq]; exact pieces js k n HN.out hkn (by omega))
  have HPD : Hid (k + (n - kq) ≤ 100000) := Lib.hid (by omega)
  have HPE : Hid (k + (n - kq) = (js.eraseIdx k).length) := Lib.hid (by rw [List.length_eraseIdx, if_pos (by rw [← HN.out]; exact hkn), ← HN.out]; omega)
  obtain ⟨A, hA⟩ : ∃ A : Addr, (if cap = kq then some (⟨g, 0, none⟩ : Addr) else some ⟨g, kq * 9, none⟩) = some A := by
   by_cases h : cap = kq
   ·exact ⟨_, if_pos h⟩
   ·exact ⟨_, if_neg h⟩
  have HPA : Hid (∀ (i : Nat) (u : Value), (jobsL (js.drop kq))[i]? = some u → A.add i = ⟨g, kq * 9 + i, none⟩) := Lib.hid (fun i u hu => by
   have hi := (List.getElem?_eq_some_iff.1 hu).1
   rw [HPC.out.2.1] at hi
   rw [if_neg (by omega)] at hA
   injection hA with hA
   rw [← hA, addr_add])
  have hki : (k : Int) + 1 = (kq : Int) := by omega
  have hkw : IntKind.i64.wrap (kq : Int) = (kq : Int) := IntWalk.i64_in _ ⟨by omega, by have := HPD.out; have := HPC.out.2.2.2.2; omega⟩
  have hkc : (k : Int) ≤ (cap : Int) := by omega
  have hkn1 : (kq : Int) ≤ (n : Int) := by omega
  have hkn2 : kq ≤ n := by omega
  have hkn3 : k ≤ cap := by omega
  clear hkq
  have y1 := k1
  clear k0 k1 k2 k3 g1 g2 g3 c0 c1 f0 f1 d4 d5 hn hjs
  refine wp_region_late (fun w' => w'.cell? ⟨p, 1, none⟩ = some (.slice (some ⟨g, 0, none⟩) n cap)) (fun j => decide (j = 19)) (by kernel_rfl) y1 (fun hS => ?_)
  refine tkD 0 (v := ?_) rfl ?_ ?_
  rotate_left
  ·(intro wq hSq; (try dsimp only at hSq); go_simp; try with_reducible rfl)
  try simp only [q0P, q0Q, q0R, q0S]
  refine tkD 2 (v := ?_) rfl ?_ ?_
  rotate_left
  ·(intro wq hSq; (try dsimp only at hSq); go_simp; try with_reducible rfl)
  try simp only [q0P, q0Q, q0R, q0S]
  refine tkD 3 (v := ?_) rfl ?_ ?_
  rotate_left
  ·(intro wq hSq; (try dsimp only at hSq); go_simp; try with_reducible rfl)
  try simp only [q0P, q0Q, q0R, q0S]
  refine tkD 4 (v := ?_) rfl ?_ ?_
  rotate_left
  ·(intro wq hSq; (try dsimp only at hSq); go_simp; try with_reducible rfl)
  try simp only [q0P, q0Q, q0R, q0S]
  refine tkD 5 (v := ?_) rfl ?_ ?_
  rotate_left
  ·(intro wq hSq; (try dsimp only at hSq); go_simp; try with_reducible rfl)
  try simp only [q0P, q0Q, q0R, q0S]
  refine tkD 6 (v := ?_) rfl ?_ ?_
  rotate_left
  ·(intro wq hSq; (try dsimp only at hSq); go_simp; try with_reducible rfl)
  try simp only [q0P, q0Q, q0R, q0S]
  refine tkD 7 (v := ?_) rfl ?_ ?_
  rotate_left
  ·(intro wq hSq; (try dsimp only at hSq); go_simp; try with_reducible rfl)
  try simp only [q0P, q0Q, q0R, q0S]
  refine tkD 9 (v := ?_) rfl ?_ ?_
  rotate_left
  ·(intro wq hSq; (try dsimp only at hSq); go_simp; try with_reducible rfl)
  try simp only [q0P, q0Q, q0R, q0S]
  refine tkD 10 (v := ?_) rfl ?_ ?_
  rotate_left
  ·(intro wq hSq; (try dsimp only at hSq); go_simp; try with_reducible rfl)
  try simp only [q0P, q0Q, q0R, q0S]
  refine tkD 11 (v := ?_) rfl ?_ ?_
  rotate_left
  ·(intro wq hSq; (try dsimp only at hSq); go_simp; try with_reducible rfl)
  try simp only [q0P, q0Q, q0R, q0S]
  refine tkD 12 (v := ?_) rfl ?_ ?_
  rotate_left
  ·(intro wq hSq; (try dsimp only at hSq); go_simp; try with_reducible rfl)
  try simp only [q0P, q0Q, q0R, q0S]
  refine tkD 13 (v := ?_) rfl ?_ ?_
  rotate_left
  ·(intro wq hSq; (try dsimp only at hSq); go_simp; try with_reducible rfl)
  try simp only [q0P, q0Q, q0R, q0S]
  refine tkD 14 (v := ?_) rfl ?_ ?_
  rotate_left
  ·(intro wq hSq; (try dsimp only at hSq); go_simp; try with_reducible rfl)
  try simp only [q0P, q0Q, q0R, q0S]
  refine tkD 15 (v := ?_) rfl ?_ ?_
  rotate_left
  ·(intro wq hSq; (try dsimp only at hSq); go_simp; try with_reducible rfl)
  try simp only [q0P, q0Q, q0R, q0S]
  refine wpAnyD_keep 1 (by kernel_rfl) rfl (fun K hK => ?_)
  go_simp
  have hbA : Below w4.heap.size w4 (w4.alloc (.cells #[] 48)).drew := ((Below.refl w4.heap.size w4).alloc (Nat.le_refl _) _).drew
  have hoA : (w4.alloc (.cells #[] 48)).drew.owns w4.heap.size 48 9 (.slice (some ⟨w4.heap.size, 0, none⟩) 0 0) 0 [] := owns_empty9 w4
  have OWA := Lib.hid (OWN.out.below hbA)
  have RQA := Lib.hid (RQ.out.below hbA)
  obtain ⟨-, kA, -⟩ := RQA.out.cells
  have HBA := Lib.hid hbA
  have HOA := Lib.hid hoA
  have HZA : Hid (w4.heap.size ≤ (w4.alloc (.cells #[] 48)).drew.heap.size) := hbA.size
  refine hK.out _ _ kA (fun hS2 => ?_)
  clear hK K hS hbA hoA kA
  try simp only [q0P, q0Q, q0R, q0S]
  refine wpAnyD_keep 8 (by kernel_rfl) rfl (fun K hK => ?_)
  refine step_appJ (by rfl) (.tmp 245) (.tmp 251) (by rfl) w4.heap.size 0 k cap ⟨g, 0, none⟩ (.slice (some ⟨w4.heap.size, 0, none⟩) 0 0) [] (jobsL (js.take k)) (by rfl) (by rfl) HOA.out HPC.out.1 (fun i u hu => by
   rw [addr_add, Nat.zero_add]
   exact World.owns.cell OWA.out _ _ (HPC.out.2.2.1 i u hu)) (jobsL_one _) HPC.out.2.2.2.2 HZA.out ?_
  intro v7 w7 ho7 hg7
  rw [List.nil_append, Nat.zero_add] at ho7
  have hb7 : Below w4.heap.size w4 w7 := HBA.out.trans (below_grown HOA.out hg7 w4.heap.size (Nat.le_refl _) HZA.out)
  have OW7 := Lib.hid (OWN.out.below hb7)
  have RQ7 := Lib.hid (RQ.out.below hb7)
  obtain ⟨-, k7, -⟩ := RQ7.out.cells
  have HO7 := Lib.hid ho7
  have HB7 := Lib.hid hb7
  obtain ⟨a7, c7, hv7⟩ : ∃ a c, v7 = .slice a k c := by
   rcases ho7.2 with ⟨e, h0⟩ | ⟨g, c, _, _, e, _⟩
   ·exact ⟨none, 0, by rw [e, h0]⟩
   ·exact ⟨_, c, e⟩
  subst hv7
  refine hK.out _ _ k7 (fun hS3 => ?_)
  clear hK K hS2 hb7 ho7 hg7 k7
  try simp only [q0P, q0Q, q0R, q0S]
  refine wpAnyD_keep 16 (by kernel_rfl) rfl (fun K hK => ?_)
  refine step_appJ (by rfl) (.tmp 252) (.tmp 259) (by rfl) w4.heap.size k (n - kq) (cap - kq) A (.slice a7 k c7) (jobsL (js.take k)) (jobsL (js.drop kq)) (by rfl) (by rfl) HO7.out HPC.out.2.1 (fun i u hu => by
   rw [HPA.out i u hu]
   exact World.owns.cell OW7.out _ _ (HPC.out.2.2.2.1 i u hu)) (jobsL_one _) HPD.out HB7.out.size ?_
  intro v8 w8 ho8 hg8
  rw [HKQ.out, ← jobsL_erase, ← HKQ.out, HPE.out] at ho8
  have hb8 : Below w4.heap.size w4 w8 := HB7.out.trans (below_grown HO7.out hg8 w4.heap.size (Nat.le_refl _) HB7.out.size)
  have RQ8 := Lib.hid (RQ.out.below hb8)
  obtain ⟨-, k8, -, -, z8, -, -⟩ := RQ8.out.cells
  have HO8 := Lib.hid ho8
  have HB8 := Lib.hid hb8
  obtain ⟨a8, l8, c8, hv8⟩ : ∃ a l c, v8 = .slice a l c := by
   rcases ho8.2 with ⟨e, h0⟩ | ⟨g, c, _, _, e, _⟩
   ·exact ⟨none, _, 0, e⟩
   ·exact ⟨_, _, c, e⟩
  subst hv8
  refine hK.out _ _ k8 (fun hS4 => ?_)
  clear hK K hS3 hb8 ho8 hg8
  try simp only [q0P, q0Q, q0R, q0S]
  refine tkW 17 (v := ?_) rfl ?_ ?_
  rotate_left
  ·(intro wq hSq; (try dsimp only at hSq); go_simp; try with_reducible rfl)
  try simp only [q0P, q0Q, q0R, q0S]
  refine tkW 18 (v := ?_) rfl ?_ ?_
  rotate_left
  ·(intro wq hSq; (try dsimp only at hSq); go_simp; try with_reducible rfl)
  try simp only [q0P, q0Q, q0R, q0S]
  refine wpAnyD_step 19 (by kernel_rfl) rfl rfl (fun K hK => ?_)
  go_simp
  refine hK.out _ _ ?_
  clear hK K hS4
  try simp only [q0P, q0Q, q0R, q0S]
  refine wpAnyD_end (by kernel_rfl) ?_
  have hpl : p < w4.heap.size := lt_of_heap RQ.out
  have hrl : pr < w4.heap.size := HR2.out.lt
  have hr8 : RdAt w8 pr s2 false := HR2.out.below HB8.out
  have hpr8 : ¬ p = pr := by have := HLEN.out.1; have := HPR.out; omega
  have hr9 : RdAt (w8.setCell ⟨p, 1, none⟩ (.slice a8 l8 c8)) pr s2 false := RdAt.other hr8 (a := ⟨p, 1, none⟩) hpr8 _
  have hq9 := RQ8.out.set1 (.slice a8 l8 c8)
  have hne : (Value.slice a8 l8 c8).ownBlock ≠ some p := fun e => by have := (HO8.out.lt p e).1; omega
  have hBw : B ≤ w4.heap.size := Nat.le_trans hB2 HB2.out.size
  have hv9 := (World.owns.mono HO8.out hBw).setCell_ne (a := ⟨p, 1, none⟩) hne (.slice a8 l8 c8)
  have hb9 : Below B w (w8.setCell ⟨p, 1, none⟩ (.slice a8 l8 c8)) := ((HB2.out.mono hB2).trans (HB8.out.mono hBw)).setCell (p := ⟨p, 1, none⟩) HLEN.out.2.1 _
  obtain ⟨c0, c1, f0, f1⟩ := hr9.cells
  rw [HJS.out] at hv9
  have HQ9 := Lib.hid hq9
  have HV9 := Lib.hid hv9
  have HB9 := Lib.hid hb9
  clear hr8 hr9 hq9 hv9 hb9 hne
  by_cases he : s2 = []
  ·obtain ⟨t1, t2⟩ := empty_eq he
   have HHE := Lib.hid he
   clear he
   have HO : Hid (q.one s = some { q with jobs := q.jobs.eraseIdx k }) := by
    show _ = _
    rw [HHO.out]
    unfold rdK rd5
    rw [if_neg (by decide), if_neg (by decide), if_neg (by decide), if_neg (by decide), if_pos rfl, HAT.out, Option.bind_some, HJ.out, Option.bind_some, if_pos HEN.out, Option.bind_some]
    exact if_pos HHE.out
   go_wp2_with fail
   go_ret
   rw [HO.out]
   exact ⟨HB9.out, rfl, _, HQ9.out, HV9.out⟩
  ·obtain ⟨t1, t2⟩ := empty_ne he
   have HO : Hid (q.one s = none) := by
    show _ = _
    rw [HHO.out]
    unfold rdK rd5
    rw [if_neg (by decide), if_neg (by decide), if_neg (by decide), if_neg (by decide), if_pos rfl, HAT.out, Option.bind_some, HJ.out, Option.bind_some, if_pos HEN.out, Option.bind_some]
    exact if_neg he
   clear he
   go_wp2_with fail
   go_ret
   rw [HO.out]
   exact ⟨HB9.out, rfl⟩
theorem rfread_any (B p : Nat) (dp v : Value) (q : Qs) (s : List UInt8) (w : World) (hq : RQueueAt w p dp v q.last false) (hv : w.owns B 48 9 v q.jobs.length (jobsL q.jobs)) (hB : B ≤ p) (hB2 : B ≤ w.heap.size) (ho : q.ok) (hs : s.length ≤ 1000000) :
  Calls Tryz.prog 64 #[.pointer (some ⟨p, 0, none⟩), strV s] w (RdP B p dp w (q.one s)) := by
 cases h1 : takeN s 1 with
 | none => exact rfread_no1 B p dp v q s w hq hv hB hB2 ho hs h1 (one_no (.inl h1))
 | some x =>
  obtain ⟨k, s1⟩ := x
  cases h2 : takeN s1 8 with
  | none => exact rfread_no2 B p dp v q s w hq hv hB hB2 ho hs h1 h2 (one_no (.inr ⟨k, s1, h1, .inr (.inr (.inl h2))⟩))
  | some y =>
   obtain ⟨id, s2⟩ := y
   by_cases hlo : k < 1
   ·exact rfread_no3 B p dp v q s w hq hv hB hB2 ho hs h1 h2 hlo (one_no (.inr ⟨k, s1, h1, .inl hlo⟩))
   by_cases hhi : 6 < k
   ·exact rfread_no4 B p dp v q s w hq hv hB hB2 ho hs h1 h2 hlo hhi (one_no (.inr ⟨k, s1, h1, .inr (.inl hhi)⟩))
   by_cases hid : id < 9223372036854775808
   case neg => exact rfread_no5 B p dp v q s w hq hv hB hB2 ho hs h1 h2 hlo hhi hid (one_no (.inr ⟨k, s1, h1, .inr (.inr (.inr ⟨id, s2, h2, .inl hid⟩))⟩))
   by_cases h6 : k = 6
   ·subst h6
    by_cases hz : id = 0
    ·exact rfread_6z B p dp v q s w hq hv hB hB2 ho hs h1 h2 hid hz
    ·exact rfread_6n B p dp v q s w hq hv hB hB2 ho hs h1 h2 hid hz
   by_cases hz : id = 0
   ·exact rfread_no6 B p dp v q s w hq hv hB hB2 ho hs h1 h2 hlo hhi hz h6 (one_no (.inr ⟨k, s1, h1, .inr (.inr (.inr ⟨id, s2, h2, .inr ⟨hz, h6⟩⟩))⟩))
   by_cases hk1 : k = 1
   ·subst hk1
    exact rfread_1 B p dp v q s w hq hv hB hB2 ho hs h1 h2 hid hz
   ·cases hat : q.at id with
    | none => exact rfread_at B p dp v q s w hq hv hB hB2 ho hs h1 h2 hid hz (by omega) (by omega) hat
    | some i =>
     obtain ⟨j, hj, -⟩ := findIdx_get hat
     obtain rfl | rfl | rfl | rfl : k = 2 ∨ k = 3 ∨ k = 4 ∨ k = 5 := by omega
     ·exact rfread_2 B p dp v q s w hq hv hB hB2 ho hs h1 h2 hid hz hat hj
     ·exact rfread_3 B p dp v q s w hq hv hB hB2 ho hs h1 h2 hid hz hat hj
     ·exact rfread_4 B p dp v q s w hq hv hB hB2 ho hs h1 h2 hid hz hat hj
     ·exact rfread_5 B p dp v q s w hq hv hB hB2 ho hs h1 h2 hid hz hat hj
end
/- Walks: the reference's queue of jobs: Open. -/
section
open Go.RowKit Go.Shelf
theorem recF_len2 (h : List UInt8) (g : Nat) : ∀ f k, (recF h g f k).length ≤ f := by
 intro f
 induction f with
 | zero => intro k; exact Nat.le_refl _
 | succ f ih =>
  intro k
  cases hn : nextR h g k with
  | none => rw [recF_none hn]; simp
  | some y =>
   obtain ⟨e, d⟩ := y
   rw [recF_some hn, List.length_cons]
   have := ih e
   omega
theorem texts_len2 {d : Dk} (hg : d.good) : d.texts.length ≤ 262144 := by
 rw [texts_of hg.half, List.length_map]
 have h1 := recF_len2 d.act d.gen d.act.length 17
 have h2 := act_length hg.ok
 have h3 := hg.ok.hi
 unfold recs
 omega
/-- What the reference's Open answers. -/
def ROpenP (p : Nat) (w : World) (r : Int ⊕ Qs) (e : Ending) (w' : World) : Prop := match r with
 | .inl er => e = .returned (.tuple #[.pointer none, .int .i64 er])
 | .inr q => ∃ pq v, e = .returned (.tuple #[.pointer (some ⟨pq, 0, none⟩), .int .i64 0]) ∧ w.heap.size ≤ pq ∧ RQueueAt w' pq (.pointer (some ⟨p, 0, none⟩)) v q.last false ∧ w'.owns w.heap.size 48 9 v q.jobs.length (jobsL q.jobs)
theorem all_snoc (s : List UInt8) : ∀ (l : List (List UInt8)) (q : Qs), q.all (l ++ [s]) = (q.all l).bind fun x => x.one s
 | [], q => by
  show (q.one s).bind (fun q' => some q') = q.one s
  cases q.one s <;> rfl
 | a :: l, q => by
  show (q.one a).bind (fun q' => q'.all (l ++ [s])) = ((q.one a).bind fun q' => q'.all l).bind fun x => x.one s
  cases q.one a with
  | none => rfl
  | some q' => exact all_snoc s l q'
theorem all_no {l : List (List UInt8)} {q : Qs} {i : Nat} (h : q.all (l.take i) = none) : q.all l = none := by
 induction l generalizing q i with
 | nil => simpa using h
 | cons a l ih =>
  cases i with
  | zero => exact absurd h (by rw [List.take_zero]; intro z; cases z)
  | succ i =>
   rw [List.take_succ_cons] at h
   show (q.one a).bind (fun q' => q'.all l) = none
   change (q.one a).bind (fun q' => q'.all (l.take i)) = none at h
   cases e : q.one a with
   | none => rfl
   | some q' => rw [e] at h; exact ih h
theorem rfOpen_gen (p b : Nat) (d : Dk) (w : World) (hd : RDiskAt w p b d) (ho : d.ok)
  (hread : ∀ (i : Nat) (q : Qs) (s : List UInt8), d.texts[i]? = some s → Qs.all ⟨[], 0⟩ (d.texts.take i) = some q → ∀ (B pq : Nat) (v : Value) (W : World), RQueueAt W pq (.pointer (some ⟨p, 0, none⟩)) v q.last false → W.owns B 48 9 v q.jobs.length (jobsL q.jobs) → B ≤ pq → B ≤ W.heap.size →
   Calls Tryz.prog 64 #[.pointer (some ⟨pq, 0, none⟩), strV s] W (RdP B pq (.pointer (some ⟨p, 0, none⟩)) W (q.one s))) :
  Calls Tryz.prog 24 #[.pointer (some ⟨p, 0, none⟩)] w fun e w' => ROpenP p w (openD d) e w' ∧ Below w.heap.size w w' := by
 have HRE := Lib.hid (rRecords_any p b d w hd ho)
 have HRD := Lib.hid hread
 obtain ⟨R, hR⟩ : ∃ R, R = openD d := ⟨_, rfl⟩
 rw [← hR]
 unfold openD at hR
 obtain ⟨er, her⟩ : ∃ er, er = d.seenErr := ⟨_, rfl⟩
 rw [← her] at hR HRE
 by_cases h0 : er = 0
 case neg =>
  rw [if_pos h0] at hR
  have h0' : (er == 0) = false := by rw [beq_eq_false_iff_ne]; exact h0
  subst hR
  clear her hread h0
  go_enter Tryz.func24, Tryz.ntmps24
  go_wp2_with fail
  refine HRE.out.mono ?_
  rintro e w1 ⟨⟨v, rfl, -, -⟩, hb⟩
  go_wp2_with fail
  go_ret2
  exact ⟨rfl, hb⟩
 ·rw [if_neg (by simpa using h0)] at hR
  have HR : Hid (R = match replay d.texts with | none => .inl 6 | some q => .inr q) := hR
  have hgood := seen_good ho (by rw [← her]; exact h0)
  have HLEN := Lib.hid (texts_len2 hgood)
  subst h0
  clear her hread hR
  go_enter Tryz.func24, Tryz.ntmps24
  go_wp2_with fail
  refine HRE.out.mono ?_
  rintro e w1 ⟨⟨v, rfl, hrd, -⟩, hb⟩
  have HB := Lib.hid hb
  have HRDS := Lib.hid hrd
  obtain ⟨va, vc, rfl, -, -, -, hcells⟩ := hrd
  have HCL := Lib.hid hcells
  clear hcells
  clear hb
  obtain ⟨n, hn⟩ : ∃ n, n = (d.texts.map strV).length := ⟨_, rfl⟩
  rw [← hn]
  have HN : Hid (n = d.texts.length) := by show _ = _; rw [hn, List.length_map]
  have hn2 : n ≤ 262144 := by rw [HN.out]; exact HLEN.out
  clear hn
  obtain ⟨W2, hW2⟩ : ∃ W, W = w1.alloc (.cells #[.pointer (some ⟨p, 0, none⟩), .slice none 0 0, .int .i64 0, .bool false] 93) := ⟨_, rfl⟩
  have hq2 : RQueueAt W2 w1.heap.size (.pointer (some ⟨p, 0, none⟩)) (.slice none 0 0) 0 false := by rw [hW2]; exact alloc_last _ _ rfl
  have hb2 : Below w.heap.size w W2 := by rw [hW2]; exact HB.out.alloc HB.out.size _
  have hs2 : w1.heap.size ≤ W2.heap.size := by rw [hW2]; simp
  have hb12 : Below w1.heap.size w1 W2 := by rw [hW2]; exact (Below.refl _ w1).alloc (Nat.le_refl _) _
  have HW2 := Lib.hid hW2
  have HQ2 := Lib.hid hq2
  have HB2 := Lib.hid hb2
  have HB12 := Lib.hid hb12
  have hz := HB.out.size
  clear hW2 hq2 hb2 hb12
  go_upto_region 5 with fail
  rw [← HW2.out]
  obtain ⟨pq, hpq⟩ : ∃ pq, pq = w1.heap.size := ⟨_, rfl⟩
  rw [← hpq] at HQ2 ⊢
  have HPQ : Hid (w1.heap.size ≤ pq ∧ w.heap.size ≤ pq) := ⟨by omega, by omega⟩
  clear hpq
  go_wp2_with fail
  go_loopw [7] (fun iv wr => ∃ (i : Nat) (q : Qs) (v : Value), i ≤ n ∧ iv = .int .i64 (i : Int) ∧ Hid (Qs.all ⟨[], 0⟩ (d.texts.take i) = some q) ∧ Hid (RQueueAt wr pq (.pointer (some ⟨p, 0, none⟩)) v q.last false) ∧ Hid (wr.owns w1.heap.size 48 9 v q.jobs.length (jobsL q.jobs)) ∧ Hid (Below w1.heap.size w1 wr)) (fun iv _ => n - (intOf iv).toNat)
  case atStart => exact ⟨0, ⟨[], 0⟩, .slice none 0 0, Nat.zero_le _, rfl, rfl, HQ2.out, World.owns_nil _ _ _ _, HB12.out⟩
  case round =>
   obtain ⟨i, q, v, hi, rfl, hA, hQ, hO, hBl⟩ := hrel
   by_cases hlt : i < n
   ·obtain ⟨s, hs⟩ : ∃ s, d.texts[i]? = some s := ⟨_, List.getElem?_eq_getElem (by rw [← HN.out]; exact hlt)⟩
    obtain ⟨bl, ol, hva, hblp, hcell⟩ := HCL.out i (strV s) (by rw [List.getElem?_map, hs]; rfl)
    subst hva
    have hlist : wr.cell? ⟨bl, ol + i, none⟩ = some (.string (bytesOf s)) := (hBl.out.cell (p := ⟨bl, ol + i, none⟩) hblp).trans hcell
    have HC := Lib.hid (HRD.out i q s hs hA.out w1.heap.size pq v wr hQ.out hO.out HPQ.out.1 hBl.out.size)
    have HS : Hid (Qs.all ⟨[], 0⟩ (d.texts.take (i + 1)) = q.one s) := by
     show _ = _
     rw [List.take_add_one, hs]
     show Qs.all ⟨[], 0⟩ (d.texts.take i ++ [s]) = _
     rw [all_snoc, hA.out]
     rfl
    unfold strV at HC
    cases ho1 : q.one s with
    | none =>
     rw [ho1] at HC
     have HF : Hid (R = .inl 6) := by
      show _ = _
      rw [HR.out]
      unfold replay
      rw [all_no (i := i + 1) (by rw [HS.out, ho1])]
     clear hs hcell ho1 hQ hO
     go_wp2_with fail
     refine HC.out.mono ?_
     rintro e w3 ⟨hb3, rfl⟩
     have HB3 := Lib.hid (HB.out.trans ((hBl.out.trans (hb3.mono (Nat.le_refl _))).mono hz))
     clear hb3
     go_wp2_with fail
     go_ret2
     rw [HF.out]
     exact ⟨rfl, HB3.out⟩
    | some q' =>
     rw [ho1] at HC
     have HS2 : Hid (Qs.all ⟨[], 0⟩ (d.texts.take (i + 1)) = some q') := by show _ = _; rw [HS.out, ho1]
     clear hs hcell ho1 hQ hO
     go_wp2_with fail
     refine HC.out.mono ?_
     rintro e w3 ⟨hb3, rfl, v3, hq3, ho3⟩
     have HB3 := Lib.hid (hBl.out.trans hb3)
     have HQ3 := Lib.hid hq3
     have HO3 := Lib.hid ho3
     clear hb3 hq3 ho3
     go_wp2_with fail
     go_roundw
     case rel => exact ⟨i + 1, q', v3, by omega, by go_num, HS2.out, HQ3.out, HO3.out, HB3.out⟩
     case measure => simp [intOf]; omega
   ·obtain rfl : i = n := by omega
    have HF : Hid (R = .inr q) := by
     show _ = _
     rw [HR.out]
     unfold replay
     have h := hA.out
     rw [HN.out, List.take_length] at h
     rw [h]
    clear hlt
    go_wp2_with fail
    go_ret2
    rw [HF.out]
    exact ⟨⟨pq, v, rfl, HPQ.out.2, hQ.out, World.owns.mono hO.out hz⟩, HB.out.trans (hBl.out.mono hz)⟩
end
/- Walks: the reference's disk: Failed, Fuse, Restart. -/
section
open Go.RowKit Go.Shelf
theorem rFuse_any (p b : Nat) (d : Dk) (n : Int) (w : World) (hd : RDiskAt w p b d) :
  Calls Tryz.prog 40 #[.pointer (some ⟨p, 0, none⟩), .int .i64 n] w fun e w' => e = .returned (.int .i64 (d.fused n).1) ∧ RDiskAt w' p b (d.fused n).2 ∧ Kp (two p b) w w' := by
 obtain ⟨-, -, k2, -, f2, -⟩ := four_cells hd.at_
 have HD := Lib.hid hd
 clear hd
 by_cases hn : n < -1
 ·have h1 : d.fused n = (2, d) := if_pos hn
  rw [h1]
  go_enter Tryz.func40, Tryz.ntmps40
  go_wp2
  go_ret
  exact ⟨rfl, HD.out, Kp.refl _ _⟩
 ·have h1 : d.fused n = (0, { d with fuse := n }) := if_neg hn
  rw [h1]
  go_enter Tryz.func40, Tryz.ntmps40
  go_wp2
  go_ret
  refine ⟨rfl, ⟨?_, ?_, HD.out.ne⟩, (Kp.refl _ w).setCell (Or.inl rfl) _⟩
  ·simp [World.setCell, Array.getElem?_modify, HD.out.at_]
  ·obtain ⟨t, ht⟩ := HD.out.half; exact ⟨t, (Below.heap_setCell w ⟨p, 2, none⟩ _ b HD.out.ne).trans ht⟩
theorem rRestart_any (p b : Nat) (d : Dk) (w : World) (hd : RDiskAt w p b d) :
  Calls Tryz.prog 23 #[.pointer (some ⟨p, 0, none⟩)] w fun e w' => (∃ v, e = .returned v) ∧ RDiskAt w' p b { d with fuse := -1, failed := false } ∧ Kp (two p b) w w' := by
 obtain ⟨-, -, k2, k3, f2, f3⟩ := four_cells hd.at_
 have HD := Lib.hid hd
 clear hd
 go_enter Tryz.func23, Tryz.ntmps23
 go_wp2
 go_end0
 refine ⟨⟨_, rfl⟩, ⟨?_, ?_, HD.out.ne⟩, ((Kp.refl _ w).setCell (Or.inl rfl) _).setCell (Or.inl rfl) _⟩
 ·simp [World.setCell, Array.getElem?_modify, HD.out.at_]
 ·obtain ⟨t, ht⟩ := HD.out.half; exact ⟨t, ((Below.heap_setCell _ ⟨p, 3, none⟩ _ b HD.out.ne).trans (Below.heap_setCell w ⟨p, 2, none⟩ _ b HD.out.ne)).trans ht⟩
end
/- Plain: a queue of jobs on a disk that does not fail. -/
section
theorem putS_free (s : List UInt8) : ∀ (st : Wr) (k : Nat), st.failed = false → st.fuse = -1 → (putS st k s).failed = false ∧ (putS st k s).fuse = -1 := by
 induction s with
 | nil => intro st k h1 h2; exact ⟨h1, h2⟩
 | cons c s ih =>
  intro st k h1 h2
  rw [putS_step (by rintro (q | q); rw [h1] at q; cases q; omega)]
  refine ih _ _ rfl ?_
  show (if 0 < st.fuse then st.fuse - 1 else st.fuse) = -1
  rw [if_neg (by omega)]; exact h2
theorem appS_free (st : Wr) (n g k : Nat) (r : List UInt8) (h1 : st.failed = false) (h2 : st.fuse = -1) : (appS st n g k r).failed = false ∧ (appS st n g k r).fuse = -1 := by
 unfold appS
 obtain ⟨a1, a2⟩ := putS_free [0] st k h1 h2
 have key : ∀ s : Wr, s.failed = false → s.fuse = -1 → (putS (putS s (k + 1) (bodyL g k r)) k [1]).failed = false ∧ (putS (putS s (k + 1) (bodyL g k r)) k [1]).fuse = -1 := fun s b1 b2 => by
  obtain ⟨c1, c2⟩ := putS_free (bodyL g k r) s (k + 1) b1 b2
  exact putS_free [1] _ _ c1 c2
 split
 ·obtain ⟨b1, b2⟩ := putS_free [0] _ (k + 13 + r.length) a1 a2
  exact key _ b1 b2
 ·exact key _ a1 a2
/-- A disk that does not fail. -/
structure Dk.free (d : Dk) : Prop where
 (good : d.good)
 (nf : d.failed = false)
 (fu : d.fuse = -1)
theorem appended_free {d : Dk} (h : d.free) (r : List UInt8) (hr : r.length ≤ 65535) : (d.appended r).2.free ∧ ((d.appended r).1 = 0 ∨ (d.appended r).1 = 5) := by
 have hp := appended_post h.good r
 have hg := hp.good
 revert hg
 unfold Dk.appended
 rw [if_neg (by rw [h.nf]; simp), if_neg (by omega), if_neg (by have := h.good.half; omega)]
 by_cases hs : d.size < d.used + 13 + r.length
 ·rw [if_pos hs]; exact fun _ => ⟨h, .inr rfl⟩
 ·rw [if_neg hs]
  intro hg
  obtain ⟨a1, a2⟩ := appS_free d.wr d.size d.gen d.used r h.nf h.fu
  refine ⟨⟨hg, ?_, ?_⟩, .inl ?_⟩
  ·rw [put_failed]; exact a1
  ·rw [put_fuse]; exact a2
  ·unfold Wr.err; rw [a1]; rfl
/-- A queue that is up, on a disk that does not fail. -/
structure Qst.up (x : Qst) : Prop where
 (fine : x.q.fine)
 (free : x.d.free)
 (nd : x.down = false)
end
/- Plain: a queue of jobs: what each call does with the jobs. -/
section
/-- An act of the law. -/
structure JAct where
 (what : Nat)
 (id prio : Int)
 (client token text : List UInt8)
end
/- Laws of the jobs: the acts; are they more than is looked at? -/
section
open Go.RowKit Go.Shelf
/-- An act lies in a world. -/
structure JActAt (w : World) (b off : Nat) (x : JAct) : Prop where
 (c0 : w.cell? ⟨b, off, none⟩ = some (.int .u8 (x.what : Int)))
 (c1 : w.cell? ⟨b, off + 1, none⟩ = some (.int .i64 x.id))
 (c2 : w.cell? ⟨b, off + 2, none⟩ = some (.int .i64 x.prio))
 (c3 : w.cell? ⟨b, off + 3, none⟩ = some (.string (bytesOf x.client)))
 (c4 : w.cell? ⟨b, off + 4, none⟩ = some (.string (bytesOf x.token)))
 (c5 : w.cell? ⟨b, off + 5, none⟩ = some (.string (bytesOf x.text)))
structure JAct.wf (x : JAct) : Prop where
 (w0 : x.what < 256)
 (w1 : -9223372036854775808 ≤ x.id ∧ x.id ≤ 9223372036854775807)
 (w2 : -9223372036854775808 ≤ x.prio ∧ x.prio ≤ 9223372036854775807)
def JActsAt (w : World) (B : Nat) (a : Option Addr) (l : List JAct) : Prop :=
 ∀ (j : Nat) (x : JAct), l[j]? = some x → ∃ b off, a = some ⟨b, off, none⟩ ∧ b < B ∧ JActAt w b (off + j * 6) x ∧ x.wf
theorem JActAt.below {w w' : World} {B b off : Nat} {x : JAct} (h : JActAt w b off x) (hb : Below B w w') (hB : b < B) : JActAt w' b off x :=
 ⟨(hb.cell (p := ⟨b, _, none⟩) hB).trans h.c0, (hb.cell (p := ⟨b, _, none⟩) hB).trans h.c1, (hb.cell (p := ⟨b, _, none⟩) hB).trans h.c2, (hb.cell (p := ⟨b, _, none⟩) hB).trans h.c3, (hb.cell (p := ⟨b, _, none⟩) hB).trans h.c4, (hb.cell (p := ⟨b, _, none⟩) hB).trans h.c5⟩
def longJ (x : JAct) : Bool := decide (100 < x.client.length) || (decide (100 < x.token.length) || ((decide (300 < x.text.length) && decide (x.text.length ≤ 60000)) || decide (70000 < x.text.length)))
def beyondB (l : List JAct) : Bool := l.any longJ || decide (80 < l.length)
theorem beyond_any (l : List JAct) (a : Option Addr) (cap : Nat) (hl : l.length ≤ maxLen) (w : World) (h : JActsAt w w.heap.size a l) :
  Calls Tryz.prog 4 #[.slice a l.length cap] w fun e w' => e = .returned (.bool (beyondB l)) ∧ w' = w := by
 obtain ⟨R, hR⟩ : ∃ R, R = beyondB l := ⟨_, rfl⟩
 rw [← hR]
 obtain ⟨n, hn⟩ : ∃ n, n = l.length := ⟨_, rfl⟩
 rw [← hn] at hl ⊢
 have hn63 : n ≤ 9223372036854775807 := hl
 have HR := Lib.hid hR
 have HN := Lib.hid hn
 have HA := Lib.hid h
 clear hR hn h hl
 go_enter Tryz.func4, Tryz.ntmps4
 go_wp2_with fail
 go_loop [3] (fun iv => ∃ k : Nat, k ≤ n ∧ iv = .int .i64 (k : Int) ∧ Hid (∀ x ∈ l.take k, longJ x = false)) (fun iv => n - (intOf iv).toNat)
 case atStart => exact ⟨0, Nat.zero_le _, rfl, fun x hx => by simp at hx⟩
 case round =>
  obtain ⟨k, hk, rfl, hS⟩ := hrel
  by_cases hlt : k < n
  ·obtain ⟨x, hx⟩ : ∃ x, l[k]? = some x := ⟨l[k]'(by rw [← HN.out]; exact hlt), List.getElem?_eq_getElem _⟩
   obtain ⟨b, off, rfl, hb, ha, hw⟩ := HA.out k x hx
   obtain ⟨c0, -, -, c3, c4, c5⟩ := ha
   have z3 : (bytesOf x.client).size = x.client.length := bytesOf_size _
   have z4 : (bytesOf x.token).size = x.token.length := bytesOf_size _
   have z5 : (bytesOf x.text).size = x.text.length := bytesOf_size _
   have hlong : longJ x = true → R = true := fun h => by
    rw [HR.out]; unfold beyondB
    rw [List.any_eq_true.2 ⟨x, List.mem_of_getElem? hx, h⟩]; rfl
   have hnext : longJ x = false → ∀ y ∈ l.take (k + 1), longJ y = false := fun h y hy => by
    rw [List.take_add_one, hx] at hy
    rcases List.mem_append.1 hy with hy | hy
    ·exact hS.out y hy
    ·simp at hy; rw [hy]; exact h
   have HLG := Lib.hid hlong
   have HNX := Lib.hid hnext
   clear hlong hnext hx hw hb c0
   unfold longJ at HLG HNX
   by_cases hA : 100 < x.client.length
   ·have hA' : (100 : Int) < (x.client.length : Int) := by omega
    obtain rfl : R = true := HLG.out (by simp [hA])
    clear hA HLG HNX
    go_wp2_with fail
    go_ret
    exact ⟨rfl, rfl⟩
   have hA' : ¬ (100 : Int) < (x.client.length : Int) := by omega
   by_cases hT : 100 < x.token.length
   ·have hT' : (100 : Int) < (x.token.length : Int) := by omega
    obtain rfl : R = true := HLG.out (by simp [hT])
    clear hA hT HLG HNX
    go_wp2_with fail
    go_ret
    exact ⟨rfl, rfl⟩
   have hT' : ¬ (100 : Int) < (x.token.length : Int) := by omega
   by_cases hC : 300 < x.text.length
   ·have hC' : (300 : Int) < (x.text.length : Int) := by omega
    by_cases hD : x.text.length ≤ 60000
    ·have hD' : (x.text.length : Int) ≤ 60000 := by omega
     obtain rfl : R = true := HLG.out (by simp [hC, hD])
     clear hA hT hC hD HLG HNX
     go_wp2_with fail
     go_ret
     exact ⟨rfl, rfl⟩
    have hD' : ¬ (x.text.length : Int) ≤ 60000 := by omega
    by_cases hE : 70000 < x.text.length
    ·have hE' : (70000 : Int) < (x.text.length : Int) := by omega
     obtain rfl : R = true := HLG.out (by simp [hE])
     clear hA hT hC hD hE HLG HNX
     go_wp2_with fail
     go_ret
     exact ⟨rfl, rfl⟩
    have hE' : ¬ (70000 : Int) < (x.text.length : Int) := by omega
    have HNX2 := Lib.hid (HNX.out (by simp [hA, hT, hC, hD, hE]))
    clear hA hT hC hD hE HLG HNX
    go_wp2_with fail
    go_round
    case rel => exact ⟨k + 1, by omega, by go_num, HNX2.out⟩
    case measure => simp [intOf]; omega
   ·have hC' : ¬ (300 : Int) < (x.text.length : Int) := by omega
    have hE : ¬ 70000 < x.text.length := by omega
    have hE' : ¬ (70000 : Int) < (x.text.length : Int) := by omega
    have HNX2 := Lib.hid (HNX.out (by simp [hA, hT, hC, hE]))
    clear hA hT hC hE HLG HNX
    go_wp2_with fail
    go_round
    case rel => exact ⟨k + 1, by omega, by go_num, HNX2.out⟩
    case measure => simp [intOf]; omega
  ·obtain rfl : k = n := by omega
   have hno : l.any longJ = false := by
    rw [List.any_eq_false]
    intro x hx
    have := hS.out x (by rw [HN.out, List.take_length]; exact hx)
    rw [this]; simp
   by_cases h80 : 80 < k
   ·have h80' : (80 : Int) < (k : Int) := by omega
    obtain rfl : R = true := by rw [HR.out]; unfold beyondB; rw [← HN.out, decide_eq_true h80]; simp
    clear h80 hno
    go_wp2_with fail
    go_ret
    exact ⟨rfl, rfl⟩
   ·have h80' : ¬ (80 : Int) < (k : Int) := by omega
    obtain rfl : R = false := by rw [HR.out]; unfold beyondB; rw [← HN.out, hno, decide_eq_false h80]; rfl
    clear h80 hno
    go_wp2_with fail
    go_ret
    exact ⟨rfl, rfl⟩
end
/- Plain: a queue of jobs: the calls that every law shows. -/
section
theorem note_room {x : Qst} (h : x.up) (s : List UInt8) (hs : s.length ≤ 65535) (hfit : x.d.used + 13 + s.length ≤ x.d.size) :
  (x.note s).1 = 0 ∧ (x.note s).2.q = x.q ∧ (x.note s).2.d.used = x.d.used + 13 + s.length ∧ (x.note s).2.d.size = x.d.size ∧ (x.note s).2.up := by
 have h0 := appended_ok h.free.good s h.free.nf hs hfit (.inl h.free.fu)
 have hp := appended_post h.free.good s
 obtain ⟨f1, -⟩ := appended_free h.free s hs
 have e : noteD x.q x.d s = x.d.appended s := by unfold noteD; rw [if_neg (by rw [h0]; decide)]
 have e1 : (x.note s).1 = 0 := by show (noteD x.q x.d s).1 = 0; rw [e]; exact h0
 have e2 : (x.note s).2.d = (x.d.appended s).2 := by show (noteD x.q x.d s).2 = _; rw [e]
 refine ⟨e1, rfl, by rw [e2]; exact (hp.ok0 h0).2.1, by rw [e2]; exact hp.size, ⟨h.fine, by rw [e2]; exact f1, ?_⟩⟩
 show (x.down || decide ((noteD x.q x.d s).1 = 9)) = false
 rw [h.nd, e, h0]; rfl
/-- What a call with enough room leaves. -/
structure Room (x : Qst) (used : Nat) (q : Qs) : Prop where
 (up : x.up)
 (q_ : x.q = q)
 (used_ : x.d.used ≤ used)
 (size : x.d.size = 4000)
theorem room_noted {x : Qst} {u : Nat} {q : Qs} (h : Room x u q) (s : List UInt8) (hs : u + 13 + s.length ≤ 4000) (q' : Qs) (hq : q'.fine) : (x.noted s q').1 = 0 ∧ Room (x.noted s q').2 (u + 13 + s.length) q' := by
 obtain ⟨n1, n2, n3, n4, n5⟩ := note_room h.up s (by omega) (by have := h.used_; have := h.size; omega)
 unfold Qst.noted
 rw [if_pos n1]
 exact ⟨rfl, ⟨hq, n5.free, n5.nd⟩, rfl, by have := h.used_; show (x.note s).2.d.used ≤ _; omega, by show (x.note s).2.d.size = 4000; rw [n4]; exact h.size⟩
def jA : Jb := ⟨1, [97], [116], 3, 1, 0, [119], [], []⟩
def jB : Jb := ⟨2, [97], [117], 5, 1, 0, [119], [], []⟩
def jB2 : Jb := ⟨2, [97], [117], 5, 2, 1, [119], [], []⟩
def jB3 : Jb := ⟨2, [97], [117], 5, 3, 1, [119], [], [100, 111, 110, 101]⟩
theorem jA_ok (n : Nat) (h : 1 ≤ n) : jA.ok n := ⟨by decide, h, by decide, by decide, by decide, by decide, by decide, by decide, by decide, by decide, by decide⟩
theorem jB_ok (n : Nat) (h : 2 ≤ n) : jB.ok n := ⟨by decide, h, by decide, by decide, by decide, by decide, by decide, by decide, by decide, by decide, by decide⟩
theorem jB2_ok (n : Nat) (h : 2 ≤ n) : jB2.ok n := ⟨by decide, h, by decide, by decide, by decide, by decide, by decide, by decide, by decide, by decide, by decide⟩
theorem jB3_ok (n : Nat) (h : 2 ≤ n) : jB3.ok n := ⟨by decide, h, by decide, by decide, by decide, by decide, by decide, by decide, by decide, by decide, by decide⟩
def qA : Qs := ⟨[jA], 1⟩
def qB : Qs := ⟨[jA, jB], 2⟩
def qC : Qs := ⟨[jA, jB2], 2⟩
def qD : Qs := ⟨[jA, jB3], 2⟩
theorem qA_fine : qA.fine := Qs.fine.nil.push (j := jA) (jA_ok 1 (by omega)) ⟨by decide, by decide, by decide⟩ (by decide) (by decide) rfl (by decide)
theorem qB_fine : qB.fine := qA_fine.push (j := jB) (jB_ok 2 (by omega)) ⟨by decide, by decide, by decide⟩ (by decide) (by decide) (by unfold qA Qs.named jA jB; simp) (by decide)
theorem qC_fine : qC.fine := qB_fine.put (k := 1) (j := jB) (j' := jB2) rfl rfl rfl rfl (jB2_ok 2 (by omega)) ⟨by decide, by decide, by decide⟩
theorem qD_fine : qD.fine := qC_fine.put (k := 1) (j := jB2) (j' := jB3) rfl rfl rfl rfl (jB3_ok 2 (by omega)) ⟨by decide, by decide, by decide⟩
theorem show_new : Room ⟨⟨[], 0⟩, newDk 4000, false⟩ 17 ⟨[], 0⟩ ∧ openD (newDk 4000) = .inr ⟨[], 0⟩ := by
 obtain ⟨h1, h2, h3, h4⟩ := newDk_post 4000 (by omega) (by omega)
 refine ⟨⟨⟨Qs.fine.nil, ⟨h1, rfl, rfl⟩, rfl⟩, rfl, by show (newDk 4000).used ≤ 17; omega, rfl⟩, ?_⟩
 unfold openD
 have hs : (newDk 4000).seenErr = 0 := by unfold Dk.seenErr; rw [if_neg (by have := h1.half; omega)]
 rw [if_neg (by rw [hs]; simp), h2]
 rfl
theorem submit_new {x : Qst} {u : Nat} {q : Qs} (h : Room x u q) (c t work : List UInt8) (p : Nat) (hc : labelB c = true) (ht : labelB t = true) (hp : p ≤ 9) (hw : work.length ≤ 60000) (hn : q.named c t = none) (hl : q.jobs.length < 100) (hm : q.last < 9223372036854775807)
  (hf : (Qs.mk (q.jobs ++ [⟨q.last + 1, c, t, p, 1, 0, work, [], []⟩]) (q.last + 1)).fine) (hfit : u + 13 + (subB ⟨q.last + 1, c, t, p, 1, 0, work, [], []⟩).length ≤ 4000) :
  ∃ x', x.submit c t (p : Int) work = ((q.last + 1, 0), x') ∧ Room x' (u + 13 + (subB ⟨q.last + 1, c, t, p, 1, 0, work, [], []⟩).length) ⟨q.jobs ++ [⟨q.last + 1, c, t, p, 1, 0, work, [], []⟩], q.last + 1⟩ := by
 have hq := h.q_
 obtain ⟨r1, r2⟩ := room_noted h (subB ⟨q.last + 1, c, t, p, 1, 0, work, [], []⟩) hfit _ hf
 refine ⟨_, ?_, r2⟩
 unfold Qst.noted at *
 obtain ⟨n1, -⟩ := note_room h.up (subB ⟨q.last + 1, c, t, p, 1, 0, work, [], []⟩) (by omega) (by have := h.used_; have := h.size; omega)
 rw [if_pos n1]
 unfold Qst.submit
 rw [hq, if_neg (by rw [h.up.nd]; simp), if_neg (by rw [hc, ht]; simp; omega), if_neg (by omega), hn]
 dsimp only
 rw [if_neg (by omega), Int.toNat_natCast, if_pos n1]
theorem show_all : ∃ x1 x2 x4 x5 : Qst, (Qst.mk ⟨[], 0⟩ (newDk 4000) false).submit [97] [116] 3 [119] = ((1, 0), x1) ∧ x1.submit [97] [117] 5 [119] = ((2, 0), x2) ∧ x2.submit [97] [116] 0 [] = ((1, 0), x2) ∧
  x2.take = ((jB2, true, 0), x4) ∧ x4.save 1 [120] = (2, x4) ∧ x4.finish 2 3 [100, 111, 110, 101] = (0, x5) ∧ x5.list.length = 2 := by
 obtain ⟨r0, -⟩ := show_new
 obtain ⟨x1, s1, r1⟩ := submit_new r0 [97] [116] [119] 3 (by decide) (by decide) (by decide) (by decide) rfl (by decide) (by decide) qA_fine (by decide)
 obtain ⟨x2, s2, r2⟩ := submit_new r1 [97] [117] [119] 5 (by decide) (by decide) (by decide) (by decide) (by unfold Qs.named; simp) (by decide) (by decide) qB_fine (by decide)
 have hq2 : x2.q = qB := r2.q_
 have hbest : bestF qB.jobs 0 none = some (1, 5) := by
  show bestF [jA, jB] 0 none = _
  rw [bestF_cons, bestF_cons]
  unfold stepF jA jB
  simp [bestF]
 obtain ⟨n1, t4⟩ := room_noted r2 (recB 2 2) (by decide) qC qC_fine
 have t4' : (x2.note (recB 2 2)).1 = 0 := by
  unfold Qst.noted at n1
  split at n1
  ·assumption
  ·exact n1
 have s4 : x2.take = ((jB2, true, 0), (x2.noted (recB 2 2) qC).2) := by
  unfold Qst.take
  rw [hq2, hbest, if_neg (by rw [r2.up.nd]; simp)]
  show (if (x2.note (recB 2 2)).1 = 0 then _ else _) = _
  unfold Qst.noted
  rw [if_pos t4', if_pos t4']
  rfl
 have hq4 : (x2.noted (recB 2 2) qC).2.q = qC := t4.q_
 have nd4 := t4.up.nd
 obtain ⟨n5, t5⟩ := room_noted t4 (overB 2 3 [100, 111, 110, 101]) (by decide) qD qD_fine
 refine ⟨x1, x2, (x2.noted (recB 2 2) qC).2, ((x2.noted (recB 2 2) qC).2.noted (overB 2 3 [100, 111, 110, 101]) qD).2, s1, s2, ?_, s4, ?_, ?_, ?_⟩
 ·unfold Qst.submit
  rw [hq2, if_neg (by rw [r2.up.nd]; simp), if_neg (by decide), if_neg (by decide)]
  have : qB.named [97] [116] = some 0 := by unfold Qs.named qB jA jB; simp [List.findIdx?_cons]
  rw [this]; rfl
 ·generalize (x2.noted (recB 2 2) qC).2 = x4 at hq4 nd4
  unfold Qst.save Qst.held
  rw [hq4, if_neg (by rw [nd4]; simp)]
  have : qC.jobs.findIdx? (fun j => decide ((j.id : Int) = 1)) = some 0 := by unfold qC jA jB2; simp [List.findIdx?_cons]
  rw [this]; rfl
 ·generalize (x2.noted (recB 2 2) qC).2 = x4 at hq4 nd4 n5
  unfold Qst.finish Qst.held
  rw [hq4, if_neg (by rw [nd4]; simp)]
  have : qC.jobs.findIdx? (fun j => decide ((j.id : Int) = 2)) = some 1 := by unfold qC jA jB2; simp [List.findIdx?_cons]
  rw [this]
  show x4.over 1 jB2 3 _ = _
  unfold Qst.over
  rw [hq4]
  show x4.noted (overB 2 3 [100, 111, 110, 101]) qD = _
  exact Prod.ext n5 rfl
 ·unfold Qst.list
  rw [if_neg (by rw [t5.up.nd]; simp), t5.q_]
  rfl
end
/- Laws of the jobs: what every law shows. -/
section
open Go.RowKit Go.Shelf
theorem shown36_any (w : World) (ht : TabAt w) : Calls Tryz.prog 5 #[] w fun e w' => e = .returned (.bool true) ∧ Below w.heap.size w w' := by
 obtain ⟨x1, x2, x4, x5, s1, s2, s3, s4, s5, s6, s7⟩ := show_all
 obtain ⟨-, ho⟩ := show_new
 have hok : (newDk 4000).ok := (newDk_post 4000 (by omega) (by omega)).1.ok
 have HN := Lib.hid (New_any 4000 (by omega) (by omega) w)
 have HT := Lib.hid ht
 have HOK := Lib.hid hok
 have HO := Lib.hid ho
 have H1 := Lib.hid s1
 have H2 := Lib.hid s2
 have H3 := Lib.hid s3
 have H4 := Lib.hid s4
 have H5 := Lib.hid s5
 have H6 := Lib.hid s6
 have H7 := Lib.hid s7
 clear s1 s2 s3 s4 s5 s6 s7 ht hok ho
 go_enter Tryz.func5, Tryz.ntmps5
 go_wp2_with fail
 refine (show Calls Tryz.prog 7 #[.int .i64 4000] w _ from HN.out).mono ?_
 rintro e wa ⟨⟨dp, b0, b1, rfl, hd, hp1, hp2, hp3⟩, hba⟩
 have HOP := Lib.hid (Open_any dp b0 b1 (newDk 4000) wa hd HOK.out (HT.out.block (hba.block _ HT.out.lt)))
 have HBA := Lib.hid hba
 have HPP : Hid (w.heap.size ≤ dp ∧ w.heap.size ≤ b0 ∧ w.heap.size ≤ b1) := Lib.hid ⟨hp1, hp2, hp3⟩
 rw [HO.out] at HOP
 clear hd hba hp1 hp2 hp3 HN
 go_wp2_with fail
 refine HOP.out.mono ?_
 rintro e wb ⟨hop, hbb⟩
 unfold OpenP at hop
 dsimp only at hop
 obtain ⟨p, v, rfl, hpp, hqd, hvv⟩ := hop
 have hsz := HBA.out.size
 have HB0 : Hid (Below w.heap.size w wb ∧ ∀ k, Mine ⟨p, dp, b0, b1⟩ v k → w.heap.size ≤ k) := Lib.hid ⟨HBA.out.trans (hbb.mono hsz), fun k hm => by
  obtain ⟨h1, h2, h3⟩ := HPP.out
  rcases hm with e | e | e | e | e
  ·have : k = p := e
   omega
  ·have : k = dp := e
   omega
  ·have : k = b0 := e
   omega
  ·have : k = b1 := e
   omega
  ·have := hvv k e; omega⟩
 have HQ0 := Lib.hid hqd
 have HS1 := Lib.hid (Submit_did ⟨p, dp, b0, b1⟩ v _ [97] [116] 3 [119] wb hqd)
 rw [H1.out] at HS1
 clear hbb hqd hpp hvv hsz
 go_wp2_with fail
 refine (show Calls Tryz.prog 13 #[.pointer (some ⟨p, 0, none⟩), .string { data := #[97] }, .string { data := #[116] }, .int .i64 3, .string { data := #[119] }] wb _ from HS1.out).mono ?_
 rintro e wc ⟨rfl, v1, hq1, hs1⟩
 have HSt1 := Lib.hid hs1
 have HS2 := Lib.hid (Submit_did ⟨p, dp, b0, b1⟩ v1 _ [97] [117] 5 [119] wc hq1)
 rw [H2.out] at HS2
 clear hs1 hq1 HS1
 go_wp2_with fail
 refine (show Calls Tryz.prog 13 #[.pointer (some ⟨p, 0, none⟩), .string { data := #[97] }, .string { data := #[117] }, .int .i64 5, .string { data := #[119] }] wc _ from HS2.out).mono ?_
 rintro e wd ⟨rfl, v2, hq2, hs2⟩
 have HSt2 := Lib.hid (HSt1.out.trans hs2)
 have HS3 := Lib.hid (Submit_did ⟨p, dp, b0, b1⟩ v2 _ [97] [116] 0 [] wd hq2)
 rw [H3.out] at HS3
 clear hs2 hq2 HS2
 go_wp2_with fail
 refine (show Calls Tryz.prog 13 #[.pointer (some ⟨p, 0, none⟩), .string { data := #[97] }, .string { data := #[116] }, .int .i64 0, .string { data := #[] }] wd _ from HS3.out).mono ?_
 rintro e we ⟨rfl, v3, hq3, hs3⟩
 have HSt3 := Lib.hid (HSt2.out.trans hs3)
 have HS4 := Lib.hid (Take_did ⟨p, dp, b0, b1⟩ v3 _ we hq3)
 rw [H4.out] at HS4
 clear hs3 hq3 HS3
 go_wp2_with fail
 refine HS4.out.mono ?_
 rintro e wf ⟨rfl, v4, hq4, hs4⟩
 have HSt4 := Lib.hid (HSt3.out.trans hs4)
 have HQ4 := Lib.hid hq4
 clear hs4 hq4 HS4
 unfold Jb.val Jb.cells jB2 strV
 go_upto_region 9 with (fail)
 obtain ⟨W5, hW5⟩ : ∃ W, W = wf.alloc (.cells #[.int .i64 2, .string (bytesOf [97]), .string (bytesOf [117]), .int .i64 5, .int .i64 2, .int .i64 1, .string (bytesOf [119]), .string (bytesOf []), .string (bytesOf [])] 48) := ⟨_, rfl⟩
 have g5 : W5.heap[wf.heap.size]? = some (.cells #[.int .i64 2, .string (bytesOf [97]), .string (bytesOf [117]), .int .i64 5, .int .i64 2, .int .i64 1, .string (bytesOf [119]), .string (bytesOf []), .string (bytesOf [])] 48) := by rw [hW5]; exact alloc_last _ _ rfl
 have hb5 : Below wf.heap.size wf W5 := by rw [hW5]; exact (Below.refl _ wf).alloc (Nat.le_refl _) _
 have k0 : W5.cell? ⟨wf.heap.size, 0, none⟩ = some (.int .i64 2) := by simp [World.cell?, g5]
 have k5 : W5.cell? ⟨wf.heap.size, 5, none⟩ = some (.int .i64 1) := by simp [World.cell?, g5]
 have hq5 := HQ4.out.below hb5
 have HSt5 := Lib.hid (HSt4.out.below hb5)
 have HS5 := Lib.hid (Save_did ⟨p, dp, b0, b1⟩ v4 _ 1 [120] W5 hq5)
 rw [H5.out] at HS5
 rw [← hW5]
 clear hq5 hb5 g5 hW5
 go_wp2_with fail
 refine (show Calls Tryz.prog 15 #[.pointer (some ⟨p, 0, none⟩), .int .i64 1, .string { data := #[120] }] W5 _ from HS5.out).mono ?_
 rintro e wg ⟨rfl, v5, hq5, hs5⟩
 have HSt6 := Lib.hid (HSt5.out.trans hs5)
 have HS6 := Lib.hid (Finish_did ⟨p, dp, b0, b1⟩ v5 _ 2 [100, 111, 110, 101] wg hq5)
 rw [H6.out] at HS6
 clear hq5 hs5 HS5 k0 k5
 go_wp2_with fail
 refine (show Calls Tryz.prog 16 #[.pointer (some ⟨p, 0, none⟩), .int .i64 2, .string { data := #[100, 111, 110, 101] }] wg _ from HS6.out).mono ?_
 rintro e wh ⟨rfl, v6, hq6, hs6⟩
 have HSt7 := Lib.hid (HSt6.out.trans hs6)
 have HS7 := Lib.hid (List_did ⟨p, dp, b0, b1⟩ v6 _ wh hq6)
 clear hq6 hs6 HS6
 go_wp2_with fail
 refine HS7.out.mono ?_
 rintro e wi ⟨⟨u, rfl, hu⟩, hbi⟩
 rw [H7.out] at hu
 obtain ⟨gu, cu, rfl⟩ := World.owns.succ hu
 have HSt8 := Lib.hid (HSt7.out.below hbi)
 clear hu hbi HS7
 go_wp2_with fail
 go_ret
 refine ⟨rfl, HB0.out.1.trans (HSt8.out.kp.below HB0.out.1.size HB0.out.2)⟩
end
/- Laws of the jobs: one of the calls of the queue. Printed by gen_lj3.py. -/
section
open Go.RowKit Go.Shelf
def JAct.val (a : JAct) : Value := .agg #[.int .u8 (a.what : Int), .int .i64 a.id, .int .i64 a.prio, .string (bytesOf a.client), .string (bytesOf a.token), .string (bytesOf a.text)]
end
/- Laws of the jobs: jobs are compared. -/
section
open Go.RowKit Go.Shelf
theorem job_equalIn (a b : Jb) (W : World) : (Op.equalIn 10000 48 a.val b.val).run Tryz.prog W = .ok (decide (a = b)) W := by
  unfold Jb.val
  rw [run_equalIn_agg W 9999 48 _ _ (by kernel_rfl) (by kernel_rfl)]
  unfold Jb.cells strV
  go_simp
  by_cases h : a = b
  · subst h
    simp
  · rw [decide_eq_false h]
    have inj : ∀ x y : List UInt8, (bytesOf x).toList = (bytesOf y).toList → x = y := fun x y e => bytesOf_inj (toList_inj e)
    repeat' split
    all_goals first
      | rfl
      | (exfalso
         rename_i h1 h2 h3 h4 h5 h6 h7 h8 h9
         refine h ?_
         obtain ⟨a1, a2, a3, a4, a5, a6, a7, a8, a9⟩ := a
         obtain ⟨b1, b2, b3, b4, b5, b6, b7, b8, b9⟩ := b
         dsimp only at *
         rw [show a1 = b1 by omega, inj _ _ h2, inj _ _ h3, show a4 = b4 by omega, show a5 = b5 by omega, show a6 = b6 by omega, inj _ _ h7, inj _ _ h8, inj _ _ h9])
theorem job_neq (a b : Jb) (W : World) : (binOp .neq 48 a.val b.val).run Tryz.prog W = .ok (.bool (!decide (a = b))) W := by
 have h := job_equalIn a b W
 unfold Jb.val at h ⊢
 rw [run_neq_struct, h]; rfl
theorem job_guard (op : BinOp) (x y : Operand) (a b : Jb) (W : World) : (eqGuard op 48 x y a.val b.val).run Tryz.prog W = .ok () W := by
 unfold Jb.val
 exact run_eqGuard_agg W op 48 x y _ _ (by kernel_rfl)
noncomputable def sameB (a b : List Jb) : Bool := decide (a = b)
theorem take_same {a b : List Jb} (h : a.length = b.length) (hk : ∀ (i : Nat) (x y : Jb), a[i]? = some x → b[i]? = some y → x = y) : a = b := by
 apply List.ext_getElem? 
 intro i
 rcases Nat.lt_or_ge i a.length with hi | hi
 ·have h1 := List.getElem?_eq_getElem hi
  have h2 := List.getElem?_eq_getElem (show i < b.length by omega)
  rw [h1, h2, hk i _ _ h1 h2]
 ·rw [List.getElem?_eq_none hi, List.getElem?_eq_none (by omega)]
theorem same_any (A B : List Jb) (u v : Value) (w : World) (hu : w.owns 0 48 9 u A.length (jobsL A)) (hv : w.owns 0 48 9 v B.length (jobsL B)) (hA : A.length ≤ 100000) (hB : B.length ≤ 100000) :
  Calls Tryz.prog 47 #[u, v] w fun e w' => e = .returned (.bool (sameB A B)) ∧ Below w.heap.size w w' := by
 obtain ⟨ua, uc, rfl⟩ : ∃ a c, u = .slice a A.length c := by
  rcases hu.2 with ⟨e, h0⟩ | ⟨g, c, _, _, e, _⟩
  ·exact ⟨none, 0, by rw [e, h0]⟩
  ·exact ⟨_, c, e⟩
 obtain ⟨va, vc, rfl⟩ : ∃ a c, v = .slice a B.length c := by
  rcases hv.2 with ⟨e, h0⟩ | ⟨g, c, _, _, e, _⟩
  ·exact ⟨none, 0, by rw [e, h0]⟩
  ·exact ⟨_, c, e⟩
 have HU := Lib.hid hu
 have HV := Lib.hid hv
 obtain ⟨R, hR⟩ : ∃ R, R = sameB A B := ⟨_, rfl⟩
 rw [← hR]
 unfold sameB at hR
 have HR := Lib.hid hR
 obtain ⟨n, hn⟩ : ∃ n, n = A.length := ⟨_, rfl⟩
 obtain ⟨m, hm⟩ : ∃ m, m = B.length := ⟨_, rfl⟩
 rw [← hn] at hA ⊢
 rw [← hm] at hB ⊢
 have HN := Lib.hid hn
 have HM := Lib.hid hm
 rw [← hn] at HU
 rw [← hm] at HV
 clear hR hn hm hu hv
 by_cases hnm : n = m
 case neg =>
  obtain rfl : R = false := by
   rw [HR.out]
   refine decide_eq_false (fun e => hnm ?_)
   rw [HN.out, HM.out, e]
  have hnm' : ((n : Int) == (m : Int)) = false := by rw [beq_eq_false_iff_ne]; omega
  clear hnm
  go_enter Tryz.func47, Tryz.ntmps47
  go_wp2_with fail
  go_ret
  exact ⟨rfl, Below.refl _ _⟩
 subst hnm
 go_enter Tryz.func47, Tryz.ntmps47
 go_wp2_with fail
 go_loopw [5] (fun iv wr => ∃ k : Nat, k ≤ n ∧ iv = .int .i64 (k : Int) ∧ Hid (∀ (i : Nat) (x y : Jb), i < k → A[i]? = some x → B[i]? = some y → x = y) ∧ Hid (Below w.heap.size w wr)) (fun iv _ => n - (intOf iv).toNat)
 case atStart => exact ⟨0, Nat.zero_le _, rfl, fun i x y hi => by omega, Below.refl _ _⟩
 case round =>
  obtain ⟨k, hk, rfl, hS, hB2⟩ := hrel
  by_cases hlt : k < n
  ·obtain ⟨x, hx⟩ : ∃ x, A[k]? = some x := ⟨A[k]'(by rw [← HN.out]; exact hlt), List.getElem?_eq_getElem _⟩
   obtain ⟨y, hy⟩ : ∃ y, B[k]? = some y := ⟨B[k]'(by rw [← HM.out]; exact hlt), List.getElem?_eq_getElem _⟩
   obtain ⟨g, c1, hg1, hg2, c0, d1, d2, d3, d4, d5, d6, d7, d8⟩ := JobsAt.cells (w := wr) (v := .slice ua A.length uc) (by have h := HU.out.below (show Below w.heap.size w wr from hB2.out); rw [HN.out] at h; exact h) k x hx
   obtain ⟨g', c2, hg3, hg4, e0, e1, e2, e3, e4, e5, e6, e7, e8⟩ := JobsAt.cells (w := wr) (v := .slice va B.length vc) (by have h := HV.out.below (show Below w.heap.size w wr from hB2.out); rw [HM.out] at h; exact h) k y hy
   injection hg1 with hg1 _ _
   injection hg3 with hg3 _ _
   subst hg1 hg3
   unfold strV at d1 d2 d6 d7 d8 e1 e2 e6 e7 e8
   have hq := fun W => job_neq x y W
   have hg := fun op a b W => job_guard op a b x y W
   unfold Jb.val Jb.cells strV at hq hg
   have HX := Lib.hid hx
   have HY := Lib.hid hy
   clear hx hy
   go_upto_region 6 with (fail)
   refine wp_region_heldL (fun w' => w'.cell? ⟨g, k * 9, none⟩ = some (.int .i64 x.id) ∧ w'.cell? ⟨g, k * 9 + 1, none⟩ = some (.string (bytesOf x.client)) ∧ w'.cell? ⟨g, k * 9 + 2, none⟩ = some (.string (bytesOf x.token)) ∧ w'.cell? ⟨g, k * 9 + 3, none⟩ = some (.int .i64 x.prio) ∧ w'.cell? ⟨g, k * 9 + 4, none⟩ = some (.int .i64 x.state) ∧ w'.cell? ⟨g, k * 9 + 5, none⟩ = some (.int .i64 x.tries) ∧ w'.cell? ⟨g, k * 9 + 6, none⟩ = some (.string (bytesOf x.work)) ∧ w'.cell? ⟨g, k * 9 + 7, none⟩ = some (.string (bytesOf x.point)) ∧ w'.cell? ⟨g, k * 9 + 8, none⟩ = some (.string (bytesOf x.result)) ∧
    w'.cell? ⟨g', k * 9, none⟩ = some (.int .i64 y.id) ∧ w'.cell? ⟨g', k * 9 + 1, none⟩ = some (.string (bytesOf y.client)) ∧ w'.cell? ⟨g', k * 9 + 2, none⟩ = some (.string (bytesOf y.token)) ∧ w'.cell? ⟨g', k * 9 + 3, none⟩ = some (.int .i64 y.prio) ∧ w'.cell? ⟨g', k * 9 + 4, none⟩ = some (.int .i64 y.state) ∧ w'.cell? ⟨g', k * 9 + 5, none⟩ = some (.int .i64 y.tries) ∧ w'.cell? ⟨g', k * 9 + 6, none⟩ = some (.string (bytesOf y.work)) ∧ w'.cell? ⟨g', k * 9 + 7, none⟩ = some (.string (bytesOf y.point)) ∧ w'.cell? ⟨g', k * 9 + 8, none⟩ = some (.string (bytesOf y.result))) (by kernel_rfl) ⟨c0, d1, d2, d3, d4, d5, d6, d7, d8, e0, e1, e2, e3, e4, e5, e6, e7, e8⟩ (fun hHeld => ?_)
   refine tkH 0 (v := ?_) rfl ?_ ?_
   rotate_left
   ·(intro wq hSq; (try dsimp only at hSq); go_simp; try with_reducible rfl)
   try simp only [q0P, q0Q, q0R, q0S]
   refine tkH 1 (v := ?_) rfl ?_ ?_
   rotate_left
   ·(intro wq hSq; (try dsimp only at hSq); go_simp; try with_reducible rfl)
   try simp only [q0P, q0Q, q0R, q0S]
   refine tkH 2 (v := ?_) rfl ?_ ?_
   rotate_left
   ·(intro wq hSq; (try dsimp only at hSq); go_simp; try with_reducible rfl)
   try simp only [q0P, q0Q, q0R, q0S]
   refine tkH 3 (v := ?_) rfl ?_ ?_
   rotate_left
   ·(intro wq hSq; (try dsimp only at hSq); go_simp; try with_reducible rfl)
   try simp only [q0P, q0Q, q0R, q0S]
   refine tkH 4 (v := ?_) rfl ?_ ?_
   rotate_left
   ·(intro wq hSq; (try dsimp only at hSq); go_simp; try with_reducible rfl)
   try simp only [q0P, q0Q, q0R, q0S]
   refine tkH 5 (v := ?_) rfl ?_ ?_
   rotate_left
   ·(intro wq hSq; (try dsimp only at hSq); go_simp; try with_reducible rfl)
   try simp only [q0P, q0Q, q0R, q0S]
   refine tkH 6 (v := ?_) rfl ?_ ?_
   rotate_left
   ·(intro wq hSq; (try dsimp only at hSq); go_simp; try with_reducible rfl)
   try simp only [q0P, q0Q, q0R, q0S]
   refine tkH 7 (v := ?_) rfl ?_ ?_
   rotate_left
   ·(intro wq hSq; (try dsimp only at hSq); go_simp; try with_reducible rfl)
   try simp only [q0P, q0Q, q0R, q0S]
   refine tkH 8 (v := ?_) rfl ?_ ?_
   rotate_left
   ·(intro wq hSq; (try dsimp only at hSq); go_simp; try with_reducible rfl)
   try simp only [q0P, q0Q, q0R, q0S]
   refine wpAnyH_end (by kernel_rfl) ?_
   clear c0 d1 d2 d3 d4 d5 d6 d7 d8 e0 e1 e2 e3 e4 e5 e6 e7 e8 hHeld hq hg
   by_cases hxy : x = y
   ·have HXY := Lib.hid hxy
    rw [decide_eq_true hxy]
    clear hxy
    go_wp2_with fail
    go_roundw
    case rel =>
     refine ⟨k + 1, by omega, by go_num, fun i a b hi ha hb => ?_, hB2.out.trans ((Below.refl wr.heap.size wr).drew.mono hB2.out.size)⟩
     rcases Nat.lt_or_ge i k with hik | hik
     ·exact hS.out i a b hik ha hb
     ·obtain rfl : i = k := by omega
      have h1 := HX.out.symm.trans ha
      have h2 := HY.out.symm.trans hb
      injection h1 with h1
      injection h2 with h2
      rw [← h1, ← h2]; exact HXY.out
    case measure => simp [intOf]; omega
   ·obtain rfl : R = false := by
     rw [HR.out]
     refine decide_eq_false (fun e => hxy ?_)
     have h1 := HX.out
     rw [e, HY.out] at h1
     injection h1 with h1
     exact h1.symm
    rw [decide_eq_false hxy]
    clear hxy
    go_wp2_with fail
    go_ret
    exact ⟨rfl, hB2.out.trans ((Below.refl wr.heap.size wr).drew.mono hB2.out.size)⟩
  ·obtain rfl : k = n := by omega
   obtain rfl : R = true := by
    rw [HR.out]
    refine decide_eq_true (take_same (by rw [← HN.out, ← HM.out]) (fun i x y hx hy => hS.out i x y (by have := (List.getElem?_eq_some_iff.1 hx).1; rw [HN.out]; omega) hx hy))
   go_wp2_with fail
   go_ret
   exact ⟨rfl, hB2.out⟩
end
/- Laws of the jobs: what a call of the queue leaves alone. Printed by gen_lj5.py. -/
section
open Go.RowKit Go.Shelf
theorem mine_stp {P : QP} {v v' : Value} {W W' : World} (h : Stp P v v' W W') (k : Nat) (hk : k < W.heap.size) (hm : Mine P v' k) : Mine P v k := by
 rcases hm with e | e | e | e | e
 ·exact .inl e
 ·exact .inr (.inl e)
 ·exact .inr (.inr (.inl e))
 ·exact .inr (.inr (.inr (.inl e)))
 ·rcases h.mv k e with e | e
  ·exact .inr (.inr (.inr (.inr e)))
  ·omega
end
/- Plain: a queue of jobs: the journal tells the queue. -/
/- Plain: a queue of jobs: two queues, one on a disk that may fail. -/
section
/-- Two disks with the same records. -/
structure Same2 (d t : Dk) : Prop where
 (sz : d.size = t.size)
 (us : d.used = t.used)
 (gn : d.gen = t.gen)
 (tx : d.texts = t.texts)
 (gd : d.good)
 (nf : d.failed = false)
 (ft : t.free)
/-- Two queues with the same jobs, and the same records. -/
structure Pair (x y : Qst) : Prop where
 (q : x.q = y.q)
 (d2 : Same2 x.d y.d)
 (nd : x.down = false)
 (up : y.up)
 (rep : replay x.d.texts = some x.q.asleep)
end
/- Plain: a queue of jobs: two queues: each call. -/
/- Plain: a queue of jobs: what a restart finds again. -/
section
theorem fuse_good {d : Dk} (h : d.good) (f : Int) (h1 : -1 ≤ f) (h2 : f ≤ 9223372036854775807) (b : Bool) : Dk.good { d with fuse := f, failed := b } :=
 ⟨⟨h.ok.l0, h.ok.l1, h.ok.lo, h.ok.hi, h1, h2⟩, h.half⟩
/-- The two queues at the beginning. -/
theorem pair_new (n : Nat) (h : 64 ≤ n) (h2 : n ≤ 262144) (f : Int) (h3 : 0 ≤ f) (h4 : f ≤ 9223372036854775807) :
  openD (newDk n) = .inr ⟨[], 0⟩ ∧ (newDk n).fused f = (0, { newDk n with fuse := f }) ∧ Dk.good { newDk n with fuse := f } ∧ Pair ⟨⟨[], 0⟩, { newDk n with fuse := f }, false⟩ ⟨⟨[], 0⟩, newDk n, false⟩ := by
 obtain ⟨a1, a2, a3, a4⟩ := newDk_post n h h2
 have hg := fuse_good a1 f (by omega) h4 (newDk n).failed
 have ht : Dk.texts { newDk n with fuse := f } = [] := a2
 refine ⟨?_, by unfold Dk.fused; rw [if_neg (by omega)], hg, ⟨rfl, ⟨rfl, rfl, rfl, rfl, hg, rfl, ⟨a1, rfl, rfl⟩⟩, rfl, ⟨Qs.fine.nil, ⟨a1, rfl, rfl⟩, rfl⟩, ?_⟩⟩
 ·unfold openD
  have hs : (newDk n).seenErr = 0 := by unfold Dk.seenErr; rw [if_neg (by have := a1.half; omega)]
  rw [if_neg (by rw [hs]; simp), a2]
  rfl
 ·show replay (Dk.texts { newDk n with fuse := f }) = _
  rw [ht]
  rfl
/-- What the disk of the law holds at the end. -/
structure Ended (d : Dk) (q : Qs) : Prop where
 (good : d.good)
 (rep : replay d.texts = some q.asleep)
 (fine : q.fine)
end
/- Laws of the jobs: what waits again after a restart. -/
/- Laws of the jobs: two queues that lie apart. -/
section
open Go.RowKit Go.Shelf
theorem DiskAt.apart {K : Nat → Prop} {w w' : World} {p b0 b1 : Nat} {d : Dk} (h : DiskAt w p b0 b1 d) (hk : Kp K w w') (n0 : ¬ K p) (n1 : ¬ K b0) (n2 : ¬ K b1) : DiskAt w' p b0 b1 d :=
 ⟨(hk.block _ (lt_of_heap h.at_) n0).trans h.at_, (by obtain ⟨t, ht⟩ := h.a0; exact ⟨t, (hk.block _ h.a0.lt n1).trans ht⟩), (by obtain ⟨t, ht⟩ := h.a1; exact ⟨t, (hk.block _ h.a1.lt n2).trans ht⟩), h.n01, h.n0, h.n1⟩
theorem QD.apart {K : Nat → Prop} {R : QP} {u : Value} {y : Qst} {w w' : World} (h : QD R u y w) (hk : Kp K w w') (hn : ∀ k, Mine R u k → ¬ K k) : QD R u y w' :=
 ⟨(hk.block _ (lt_of_heap h.qa) (hn _ (.inl rfl))).trans h.qa, World.owns.keptBy h.ja (fun g c fz hg hh => hk.block g (lt_of_heap hh) (hn _ (.inr (.inr (.inr (.inr hg)))))),
  h.dk.apart hk (hn _ (.inr (.inl rfl))) (hn _ (.inr (.inr (.inl rfl)))) (hn _ (.inr (.inr (.inr (.inl rfl))))), h.np, h.nv, h.fine, h.good⟩
/-- Two queues of a law, behind B. -/
structure Two (B : Nat) (P R : QP) (u v : Value) (x y : Qst) (w W : World) : Prop where
 (xa : QD P u x W)
 (ya : QD R v y W)
 (ap : ∀ k, Mine P u k → ¬ Mine R v k)
 (bl : Below B w W)
 (mx : ∀ k, Mine P u k → B ≤ k)
 (my : ∀ k, Mine R v k → B ≤ k)
 (le : B ≤ W.heap.size)
/-- What the law holds before the restart. -/
structure Fin (B : Nat) (P : QP) (s : Value) (l : Int) (w W : World) : Prop where
 (ex : ∃ (d : Dk) (q : Qs) (L : Nat), l = (L : Int) ∧ L ≤ q.last ∧ DiskAt W P.d P.b0 P.b1 d ∧ Ended d q ∧ W.owns 0 48 9 s q.jobs.length (jobsL q.jobs))
 (na : ∀ k, s.ownBlock = some k → ¬ three P.d P.b0 P.b1 k)
 (bl : Below B w W)
 (mn : ∀ k, three P.d P.b0 P.b1 k → B ≤ k)
 (le : B ≤ W.heap.size)
theorem three_mine {P : QP} {v : Value} {k : Nat} (h : three P.d P.b0 P.b1 k) : Mine P v k := by
 rcases h with h | h | h
 ·exact .inr (.inl h)
 ·exact .inr (.inr (.inl h))
 ·exact .inr (.inr (.inr (.inl h)))
end
/- Laws of the jobs: a queue and the reference's, side by side. -/
section
open Go.RowKit Go.Shelf
theorem rfOpen_any (p b : Nat) (d : Dk) (w : World) (hd : RDiskAt w p b d) (ho : d.ok) :
  Calls Tryz.prog 24 #[.pointer (some ⟨p, 0, none⟩)] w fun e w' => ROpenP p w (openD d) e w' ∧ Below w.heap.size w w' := by
 refine rfOpen_gen p b d w hd ho (fun i q s hs hq B pq v W h1 h2 h3 h4 => ?_)
 have hsl := texts_short d s (List.mem_of_getElem? hs)
 exact rfread_any B pq _ v q s W h1 h2 h3 h4 (replay_fine hq).ok (by omega)
theorem rmine_stp {P : RQP} {v v' : Value} {w w' : World} (hs : RStp P v v' w w') (k : Nat) (hk : k < w.heap.size) (h : RMine P v' k) : RMine P v k := by
 rcases h with e | e | e | e
 ·exact .inl e
 ·exact .inr (.inl e)
 ·exact .inr (.inr (.inl e))
 ·rcases hs.mv k e with e | e
  ·exact .inr (.inr (.inr e))
  ·omega
theorem RDiskAt.apart {K : Nat → Prop} {w w' : World} {p b : Nat} {d : Dk} (h : RDiskAt w p b d) (hk : Kp K w w') (n0 : ¬ K p) (n1 : ¬ K b) : RDiskAt w' p b d :=
 ⟨(hk.block _ (lt_of_heap h.at_) n0).trans h.at_, (by obtain ⟨t, ht⟩ := h.half; exact ⟨t, (hk.block _ h.half.lt n1).trans ht⟩), h.ne⟩
theorem RQD.apart {K : Nat → Prop} {R : RQP} {u : Value} {y : Qst} {w w' : World} (h : RQD R u y w) (hk : Kp K w w') (hn : ∀ k, RMine R u k → ¬ K k) : RQD R u y w' :=
 ⟨(hk.block _ (lt_of_heap h.qa) (hn _ (.inl rfl))).trans h.qa, World.owns.keptBy h.ja (fun g c fz hg hh => hk.block g (lt_of_heap hh) (hn _ (.inr (.inr (.inr hg))))),
  h.dk.apart hk (hn _ (.inr (.inl rfl))) (hn _ (.inr (.inr (.inl rfl)))), h.np, h.nv, h.fine, h.good⟩
/-- A block that neither of the two queues changes. -/
structure Keep (b : Nat) (o : Obj) (P : QP) (R : RQP) (v u : Value) (W : World) : Prop where
 (hp : W.heap[b]? = some o)
 (nx : ¬ Mine P v b)
 (ny : ¬ RMine R u b)
theorem Keep.below {b : Nat} {o : Obj} {P : QP} {R : RQP} {v u : Value} {W W' : World} (h : Keep b o P R v u W) (hb : Below W.heap.size W W') : Keep b o P R v u W' := ⟨(hb.block b (lt_of_heap h.hp)).trans h.hp, h.nx, h.ny⟩
theorem Keep.left {b : Nat} {o : Obj} {P : QP} {R : RQP} {v v' u : Value} {W W' : World} (h : Keep b o P R v u W) (hs : Stp P v v' W W') : Keep b o P R v' u W' :=
 ⟨(hs.kp.block b (lt_of_heap h.hp) h.nx).trans h.hp, fun e => h.nx (mine_stp hs b (lt_of_heap h.hp) e), h.ny⟩
theorem Keep.right {b : Nat} {o : Obj} {P : QP} {R : RQP} {v u u' : Value} {W W' : World} (h : Keep b o P R v u W) (hs : RStp R u u' W W') : Keep b o P R v u' W' :=
 ⟨(hs.kp.block b (lt_of_heap h.hp) h.ny).trans h.hp, h.nx, fun e => h.ny (rmine_stp hs b (lt_of_heap h.hp) e)⟩
/-- What lies in the law's box. -/
def boObj (dp qp cp wp : Value) (o : Bool) : Obj := .cells #[dp, qp, cp, wp, .bool o] 37
theorem bo_cells {W : World} {b : Nat} {dp qp cp wp : Value} {o : Bool} (h : W.heap[b]? = some (boObj dp qp cp wp o)) :
  (W.cell? ⟨b, 0, none⟩ = some dp ∧ W.cell? ⟨b, 1, none⟩ = some qp ∧ W.cell? ⟨b, 2, none⟩ = some cp ∧ W.cell? ⟨b, 3, none⟩ = some wp ∧ W.cell? ⟨b, 4, none⟩ = some (.bool o)) ∧
   W.frozen? ⟨b, 1, none⟩ = false ∧ W.frozen? ⟨b, 3, none⟩ = false ∧ W.frozen? ⟨b, 4, none⟩ = false := by
 unfold boObj at h
 simp [World.cell?, World.frozen?, h]
/-- Two queues and the law's box, behind B. -/
structure Bo (B bb : Nat) (P : QP) (R : RQP) (v u : Value) (x y : Qst) (w W : World) : Prop where
 (bx : Keep bb (boObj (.pointer (some ⟨P.d, 0, none⟩)) (.pointer (some ⟨P.p, 0, none⟩)) (.pointer (some ⟨R.d, 0, none⟩)) (.pointer (some ⟨R.p, 0, none⟩)) false) P R v u W)
 (xa : QD P v x W)
 (ya : RQD R u y W)
 (ap : ∀ k, Mine P v k → ¬ RMine R u k)
 (bl : Below B w W)
 (mx : ∀ k, Mine P v k → B ≤ k)
 (my : ∀ k, RMine R u k → B ≤ k)
 (mb : B ≤ bb)
 (le : B ≤ W.heap.size)
theorem Bo.below {B bb : Nat} {P : QP} {R : RQP} {v u : Value} {x y : Qst} {w W W' : World} (h : Bo B bb P R v u x y w W) (hb : Below W.heap.size W W') : Bo B bb P R v u x y w W' :=
 ⟨h.bx.below hb, h.xa.below hb, h.ya.below hb, h.ap, h.bl.trans (hb.mono h.le), h.mx, h.my, h.mb, Nat.le_trans h.le hb.size⟩
theorem Bo.left {B bb : Nat} {P : QP} {R : RQP} {v v' u : Value} {x x' y : Qst} {w W W' : World} (h : Bo B bb P R v u x y w W) (hq : QD P v' x' W') (hs : Stp P v v' W W') : Bo B bb P R v' u x' y w W' := by
 refine ⟨h.bx.left hs, hq, h.ya.apart hs.kp (fun k a b => h.ap k b a), fun k a b => ?_, h.bl.trans (hs.kp.below h.le h.mx), fun k a => ?_, h.my, h.mb, Nat.le_trans h.le hs.kp.size⟩
 ·exact h.ap k (mine_stp hs k (h.ya.lt k b) a) b
 ·rcases Nat.lt_or_ge k W.heap.size with hk | hk
  ·exact h.mx k (mine_stp hs k hk a)
  ·exact Nat.le_trans h.le hk
theorem Bo.right {B bb : Nat} {P : QP} {R : RQP} {v u u' : Value} {x y y' : Qst} {w W W' : World} (h : Bo B bb P R v u x y w W) (hq : RQD R u' y' W') (hs : RStp R u u' W W') : Bo B bb P R v u' x y' w W' := by
 refine ⟨h.bx.right hs, h.xa.apart hs.kp (fun k a b => h.ap k a b), hq, fun k a b => ?_, h.bl.trans (hs.kp.below h.le h.my), h.mx, fun k a => ?_, h.mb, Nat.le_trans h.le hs.kp.size⟩
 ·exact h.ap k a (rmine_stp hs k (h.xa.lt k a) b)
 ·rcases Nat.lt_or_ge k W.heap.size with hk | hk
  ·exact h.my k (rmine_stp hs k hk a)
  ·exact Nat.le_trans h.le hk
/-- What an act leaves: two queues that are alike, or none. -/
def After (B bb : Nat) (w W : World) : Prop := (∃ P R v u x, Bo B bb P R v u x x w W) ∨ (W.cell? ⟨bb, 4, none⟩ = some (.bool true) ∧ Below B w W ∧ B ≤ W.heap.size)
/-- The two disks and the law's box. -/
structure Dsk (B bb dp b0 b1 cp cb : Nat) (q u : Value) (d : Dk) (w W : World) : Prop where
 (bx : W.heap[bb]? = some (boObj (.pointer (some ⟨dp, 0, none⟩)) q (.pointer (some ⟨cp, 0, none⟩)) u false))
 (da : DiskAt W dp b0 b1 d)
 (ra : RDiskAt W cp cb d)
 (good : d.good)
 (ap : ∀ k, three dp b0 b1 k → ¬ two cp cb k)
 (nx : ¬ three dp b0 b1 bb)
 (ny : ¬ two cp cb bb)
 (bl : Below B w W)
 (mx : ∀ k, three dp b0 b1 k → B ≤ k)
 (my : ∀ k, two cp cb k → B ≤ k)
 (mb : B ≤ bb)
 (le : B ≤ W.heap.size)
theorem two_mine {P : RQP} {v : Value} {k : Nat} (h : two P.d P.b k) : RMine P v k := by
 rcases h with h | h
 ·exact .inr (.inl h)
 ·exact .inr (.inr (.inl h))
theorem Bo.dsk {B bb : Nat} {P : QP} {R : RQP} {v u : Value} {x y : Qst} {w W : World} (h : Bo B bb P R v u x y w W) (e : y.d = x.d) : Dsk B bb P.d P.b0 P.b1 R.d R.b (.pointer (some ⟨P.p, 0, none⟩)) (.pointer (some ⟨R.p, 0, none⟩)) x.d w W :=
 ⟨h.bx.hp, h.xa.dk, by rw [← e]; exact h.ya.dk, h.xa.good, fun k a b => h.ap k (three_mine a) (two_mine b), fun a => h.bx.nx (three_mine a), fun a => h.bx.ny (two_mine a), h.bl, fun k a => h.mx k (three_mine a), fun k a => h.my k (two_mine a), h.mb, h.le⟩
end
/- Laws of the jobs: both queues are opened. -/
section
open Go.RowKit Go.Shelf
theorem openD_not {d : Dk} {er : Int} (h : openD d = .inl er) : er ≠ 0 := by
 unfold openD at h
 split at h
 ·rename_i h0
  injection h with h
  rw [← h]; exact h0
 ·split at h
  ·injection h with h
   rw [← h]; omega
  ·cases h
theorem Dsk.below {B bb dp b0 b1 cp cb : Nat} {q u : Value} {d : Dk} {w W W' : World} (h : Dsk B bb dp b0 b1 cp cb q u d w W) (hb : Below W.heap.size W W') : Dsk B bb dp b0 b1 cp cb q u d w W' :=
 ⟨(hb.block bb (lt_of_heap h.bx)).trans h.bx, h.da.kept hb, h.ra.kept hb, h.good, h.ap, h.nx, h.ny, h.bl.trans (hb.mono h.le), h.mx, h.my, h.mb, Nat.le_trans h.le hb.size⟩
/-- The two disks, not yet alike. -/
structure Dsk2 (B bb dp b0 b1 cp cb : Nat) (q u : Value) (d c : Dk) (w W : World) : Prop where
 (bx : W.heap[bb]? = some (boObj (.pointer (some ⟨dp, 0, none⟩)) q (.pointer (some ⟨cp, 0, none⟩)) u false))
 (da : DiskAt W dp b0 b1 d)
 (ra : RDiskAt W cp cb c)
 (ap : ∀ k, three dp b0 b1 k → ¬ two cp cb k)
 (nx : ¬ three dp b0 b1 bb)
 (ny : ¬ two cp cb bb)
 (bl : Below B w W)
 (mx : ∀ k, three dp b0 b1 k → B ≤ k)
 (my : ∀ k, two cp cb k → B ≤ k)
 (mb : B ≤ bb)
 (le : B ≤ W.heap.size)
theorem Dsk.two {B bb dp b0 b1 cp cb : Nat} {q u : Value} {d : Dk} {w W : World} (h : Dsk B bb dp b0 b1 cp cb q u d w W) : Dsk2 B bb dp b0 b1 cp cb q u d d w W := ⟨h.bx, h.da, h.ra, h.ap, h.nx, h.ny, h.bl, h.mx, h.my, h.mb, h.le⟩
theorem Dsk2.one {B bb dp b0 b1 cp cb : Nat} {q u : Value} {d : Dk} {w W : World} (h : Dsk2 B bb dp b0 b1 cp cb q u d d w W) (hg : d.good) : Dsk B bb dp b0 b1 cp cb q u d w W := ⟨h.bx, h.da, h.ra, hg, h.ap, h.nx, h.ny, h.bl, h.mx, h.my, h.mb, h.le⟩
theorem Dsk2.left {B bb dp b0 b1 cp cb : Nat} {q u : Value} {d d' c : Dk} {w W W' : World} (h : Dsk2 B bb dp b0 b1 cp cb q u d c w W) (hd : DiskAt W' dp b0 b1 d') (hk : Kp (three dp b0 b1) W W') : Dsk2 B bb dp b0 b1 cp cb q u d' c w W' :=
 ⟨(hk.block bb (lt_of_heap h.bx) h.nx).trans h.bx, hd, h.ra.apart hk (fun a => h.ap _ a (.inl rfl)) (fun a => h.ap _ a (.inr rfl)), h.ap, h.nx, h.ny, h.bl.trans (hk.below h.le h.mx), h.mx, h.my, h.mb, Nat.le_trans h.le hk.size⟩
theorem Dsk2.right {B bb dp b0 b1 cp cb : Nat} {q u : Value} {d c c' : Dk} {w W W' : World} (h : Dsk2 B bb dp b0 b1 cp cb q u d c w W) (hc : RDiskAt W' cp cb c') (hk : Kp (two cp cb) W W') : Dsk2 B bb dp b0 b1 cp cb q u d c' w W' :=
 ⟨(hk.block bb (lt_of_heap h.bx) h.ny).trans h.bx, h.da.apart hk (h.ap _ (.inl rfl)) (h.ap _ (.inr (.inl rfl))) (h.ap _ (.inr (.inr rfl))), hc, h.ap, h.nx, h.ny, h.bl.trans (hk.below h.le h.my), h.mx, h.my, h.mb, Nat.le_trans h.le hk.size⟩
theorem bo_set {W : World} {b : Nat} {dp qp cp wp : Value} {o : Bool} (h : W.heap[b]? = some (boObj dp qp cp wp o)) (q u : Value) : ((W.setCell ⟨b, 1, none⟩ q).setCell ⟨b, 3, none⟩ u).heap[b]? = some (boObj dp q cp u o) := by
 unfold boObj at h ⊢
 simp [World.setCell, Array.getElem?_modify, h]
theorem bo_over {W : World} {b : Nat} {dp qp cp wp : Value} {o : Bool} (h : W.heap[b]? = some (boObj dp qp cp wp o)) : (W.setCell ⟨b, 4, none⟩ (.bool true)).cell? ⟨b, 4, none⟩ = some (.bool true) := by
 unfold boObj at h
 simp [World.setCell, World.cell?, Array.getElem?_modify, h]
theorem bo_02 {W : World} {b : Nat} {dp qp cp wp : Value} {o : Bool} (h : W.heap[b]? = some (boObj dp qp cp wp o)) : (W.setCell ⟨b, 4, none⟩ (.bool true)).cell? ⟨b, 0, none⟩ = some dp ∧ (W.setCell ⟨b, 4, none⟩ (.bool true)).cell? ⟨b, 2, none⟩ = some cp := by
 unfold boObj at h
 simp [World.setCell, World.cell?, Array.getElem?_modify, h]
theorem bo_02b {W : World} {b : Nat} {dp qp cp wp : Value} {o : Bool} (h : W.heap[b]? = some (boObj dp qp cp wp o)) (q u : Value) : ((W.setCell ⟨b, 1, none⟩ q).setCell ⟨b, 3, none⟩ u).cell? ⟨b, 0, none⟩ = some dp ∧ ((W.setCell ⟨b, 1, none⟩ q).setCell ⟨b, 3, none⟩ u).cell? ⟨b, 2, none⟩ = some cp := by
 unfold boObj at h
 simp [World.setCell, World.cell?, Array.getElem?_modify, h]
theorem kp_cell {W : World} {a : Addr} (v : Value) : Kp (fun k => k = a.block) W (W.setCell a v) := Kp.setCell (P := fun k => k = a.block) (Kp.refl _ W) rfl v
/-- Two queues that were just opened. -/
theorem Bo.opened {B bb dp b0 b1 cp cb p r : Nat} {q0 u0 v u : Value} {d : Dk} {q : Qs} {w W W1 W2 : World} (h : Dsk B bb dp b0 b1 cp cb q0 u0 d w W) (hp : W.heap.size ≤ p) (hq : QD ⟨p, dp, b0, b1⟩ v ⟨q, d, false⟩ W1) (hv : ∀ k, v.ownBlock = some k → W.heap.size ≤ k) (hb1 : Below W.heap.size W W1)
  (hr : W1.heap.size ≤ r) (ha : RQueueAt W2 r (.pointer (some ⟨cp, 0, none⟩)) u q.last false) (ho : W2.owns W1.heap.size 48 9 u q.jobs.length (jobsL q.jobs)) (hb2 : Below W1.heap.size W1 W2) (hf : q.fine) :
  Bo B bb ⟨p, dp, b0, b1⟩ ⟨r, cp, cb⟩ v u ⟨q, d, false⟩ ⟨q, d, false⟩ w ((W2.setCell ⟨bb, 1, none⟩ (.pointer (some ⟨p, 0, none⟩))).setCell ⟨bb, 3, none⟩ (.pointer (some ⟨r, 0, none⟩))) := by
 have hlb : bb < W.heap.size := lt_of_heap h.bx
 have hs1 := hb1.size
 have hs2 := hb2.size
 have h1 := h.below hb1
 have h2 := h1.below hb2
 have hq2 := hq.below hb2
 have hnx : ¬ Mine ⟨p, dp, b0, b1⟩ v bb := by
  rintro (e | e | e | e | e)
  ·have : bb = p := e
   omega
  ·exact h.nx (.inl e)
  ·exact h.nx (.inr (.inl e))
  ·exact h.nx (.inr (.inr e))
  ·have := hv bb e; omega
 have hny : ¬ RMine ⟨r, cp, cb⟩ u bb := by
  rintro (e | e | e | e)
  ·have : bb = r := e
   omega
  ·exact h.ny (.inl e)
  ·exact h.ny (.inr e)
  ·have := (ho.lt bb e).1; omega
 have hlc : cp < W.heap.size := lt_of_heap h.ra.at_
 have hlcb : cb < W.heap.size := h.ra.half.lt
 have hyl : RQD ⟨r, cp, cb⟩ u ⟨q, d, false⟩ W2 := ⟨ha, World.owns.mono ho (Nat.zero_le _), h2.ra, ⟨fun e => by have e : r = cp := e; omega, fun e => by have e : r = cb := e; omega⟩, ⟨fun e => by have := (ho.lt _ e).1; have e2 : (⟨r, cp, cb⟩ : RQP).d = cp := rfl; omega, fun e => by have := (ho.lt _ e).1; have e2 : (⟨r, cp, cb⟩ : RQP).b = cb := rfl; omega⟩, hf, h.good⟩
 have hap : ∀ k, Mine ⟨p, dp, b0, b1⟩ v k → ¬ RMine ⟨r, cp, cb⟩ u k := by
  intro k hm hr2
  have hk1 : k < W1.heap.size := hq.lt k hm
  rcases hr2 with e | e | e | e
  ·have : k = r := e
   omega
  ·have e : k = cp := e
   rcases hm with m | m | m | m | m
   ·have : k = p := m
    omega
   ·exact h.ap k (.inl m) (.inl e)
   ·exact h.ap k (.inr (.inl m)) (.inl e)
   ·exact h.ap k (.inr (.inr m)) (.inl e)
   ·have := hv k m; omega
  ·have e : k = cb := e
   rcases hm with m | m | m | m | m
   ·have : k = p := m
    omega
   ·exact h.ap k (.inl m) (.inr e)
   ·exact h.ap k (.inr (.inl m)) (.inr e)
   ·exact h.ap k (.inr (.inr m)) (.inr e)
   ·have := hv k m; omega
  ·have := (ho.lt k e).1; omega
 have kx := kp_cell (W := W2) (a := ⟨bb, 1, none⟩) (.pointer (some ⟨p, 0, none⟩))
 have ky := kp_cell (W := W2.setCell ⟨bb, 1, none⟩ (.pointer (some ⟨p, 0, none⟩))) (a := ⟨bb, 3, none⟩) (.pointer (some ⟨r, 0, none⟩))
 have k2 := kx.trans ky
 refine ⟨⟨bo_set h2.bx _ _, hnx, hny⟩, hq2.apart k2 (fun k hm e => hnx (by have e : k = bb := e; rw [← e]; exact hm)), hyl.apart k2 (fun k hm e => hny (by have e : k = bb := e; rw [← e]; exact hm)), hap, (h2.bl.setCell (p := ⟨bb, 1, none⟩) h.mb _).setCell (p := ⟨bb, 3, none⟩) h.mb _, ?_, ?_, h.mb, ?_⟩
 ·intro k hm
  have := h.le
  rcases hm with m | m | m | m | m
  ·have : k = p := m
   omega
  ·exact h.mx k (.inl m)
  ·exact h.mx k (.inr (.inl m))
  ·exact h.mx k (.inr (.inr m))
  ·have := hv k m; omega
 ·intro k hm
  have := h.le
  rcases hm with m | m | m | m
  ·have : k = r := m
   omega
  ·exact h.my k (.inl m)
  ·exact h.my k (.inr m)
  ·have := (ho.lt k m).1; omega
 ·exact Nat.le_trans h2.le k2.size
theorem open_any (B bb dp b0 b1 cp cb : Nat) (q u : Value) (d : Dk) (w W : World) (h : Dsk B bb dp b0 b1 cp cb q u d w W) (hT : ∀ X, Below B w X → TabAt X) :
  Calls Tryz.prog 9 #[.pointer (some ⟨bb, 0, none⟩)] W fun e w' => e = .returned (.bool true) ∧ After B bb w w' ∧ (w'.cell? ⟨bb, 0, none⟩ = some (.pointer (some ⟨dp, 0, none⟩)) ∧ w'.cell? ⟨bb, 2, none⟩ = some (.pointer (some ⟨cp, 0, none⟩))) ∧ (∀ k o, W.heap[k]? = some o → ¬ three dp b0 b1 k → ¬ two cp cb k → ¬ k = bb → w'.heap[k]? = some o) ∧ ((∃ q', openD { d with fuse := -1, failed := false } = .inr q') → ∃ P R v u x, Bo B bb P R v u x x w w') := by
 obtain ⟨⟨k0, -, k2, -, -⟩, -⟩ := bo_cells h.bx
 have HD := Lib.hid h.two
 have HT := Lib.hid hT
 have hg : ({ d with fuse := -1, failed := false } : Dk).good := good_fuse h.good (-1) (by omega) (by omega) false
 obtain ⟨D, hD⟩ : ∃ D : Dk, D = { d with fuse := -1, failed := false } := ⟨_, rfl⟩
 rw [← hD] at hg
 have HG := Lib.hid hg
 have HDD := Lib.hid hD
 have HR1 := Lib.hid (Restart_any dp b0 b1 d W h.da)
 rw [← hD] at HR1
 clear h hT hg hD
 go_enter Tryz.func9, Tryz.ntmps9
 go_wp2_with fail
 refine HR1.out.mono ?_
 rintro e w1 ⟨⟨rv, rfl⟩, hd1, hk1⟩
 have HD1 := Lib.hid (HD.out.left hd1 hk1)
 have HX1 := Lib.hid (fun (k : Nat) (o : Obj) (hk : W.heap[k]? = some o) (n3 : ¬ three dp b0 b1 k) => (hk1.block k (lt_of_heap hk) n3).trans hk)
 obtain ⟨⟨k0, -, k2, -, -⟩, -⟩ := bo_cells HD1.out.bx
 have HR2 := Lib.hid (rRestart_any cp cb d w1 HD1.out.ra)
 rw [← HDD.out] at HR2
 clear hd1 hk1 HR1 HD
 go_wp2_with fail
 refine HR2.out.mono ?_
 rintro e w2 ⟨⟨rv2, rfl⟩, hd2, hk2⟩
 have HD2 := Lib.hid ((HD1.out.right hd2 hk2).one HG.out)
 have HX2 := Lib.hid (fun (k : Nat) (o : Obj) (hk : W.heap[k]? = some o) (n3 : ¬ three dp b0 b1 k) (n2 : ¬ two cp cb k) => (hk2.block k (lt_of_heap (HX1.out k o hk n3)) n2).trans (HX1.out k o hk n3))
 obtain ⟨⟨k0, -, k2, -, -⟩, -⟩ := bo_cells HD2.out.bx
 have HOP := Lib.hid (Open_any dp b0 b1 D w2 HD2.out.da HG.out.ok (HT.out w2 HD2.out.bl))
 clear hd2 hk2 HR2 HD1
 go_wp2_with fail
 refine HOP.out.mono ?_
 rintro e w3 ⟨hop, hb3⟩
 have HD3 := Lib.hid (HD2.out.below hb3)
 have HB3 := Lib.hid hb3
 have HX3 := Lib.hid (fun (k : Nat) (o : Obj) (hk : W.heap[k]? = some o) (n3 : ¬ three dp b0 b1 k) (n2 : ¬ two cp cb k) => (hb3.block k (lt_of_heap (HX2.out k o hk n3 n2))).trans (HX2.out k o hk n3 n2))
 have HRO := Lib.hid (rfOpen_any cp cb D w3 HD3.out.ra HG.out.ok)
 obtain ⟨⟨k0, -, k2, -, -⟩, -⟩ := bo_cells HD3.out.bx
 clear hb3 HOP
 obtain ⟨R, hR⟩ : ∃ R, R = openD D := ⟨_, rfl⟩
 rw [← hR] at hop HRO
 cases R with
 | inl er =>
  have h1 : ¬ er = 0 := openD_not hR.symm
  unfold OpenP at hop
  dsimp only at hop
  obtain ⟨rfl, -⟩ := hop
  have HNO : Hid (¬ ∃ q', openD D = .inr q') := Lib.hid (fun ⟨q', e⟩ => by rw [← hR] at e; cases e)
  clear hR
  go_wp2_with fail
  refine HRO.out.mono ?_
  rintro e w4 ⟨hop, hb4⟩
  unfold ROpenP at hop
  dsimp only at hop
  subst hop
  have HD4 := Lib.hid (HD3.out.below hb4)
  have HX4 := Lib.hid (fun (k : Nat) (o : Obj) (hk : W.heap[k]? = some o) (n3 : ¬ three dp b0 b1 k) (n2 : ¬ two cp cb k) => (hb4.block k (lt_of_heap (HX3.out k o hk n3 n2))).trans (HX3.out k o hk n3 n2))
  obtain ⟨⟨-, -, -, -, k4⟩, -, -, f4⟩ := bo_cells HD4.out.bx
  clear hb4 HRO
  go_wp2_with fail
  go_ret
  exact ⟨rfl, .inr ⟨bo_over HD4.out.bx, HD4.out.bl.setCell (p := ⟨bb, 4, none⟩) HD4.out.mb _, by simpa using HD4.out.le⟩, bo_02 HD4.out.bx, fun k o hk n3 n2 nb => (Below.heap_setCell _ _ _ _ nb).trans (HX4.out k o hk n3 n2), fun e => (HNO.out (by rw [HDD.out]; exact e)).elim⟩
 | inr q2 =>
  unfold OpenP at hop
  dsimp only at hop
  obtain ⟨p, v, rfl, hp, hqd, hvv⟩ := hop
  have HP : Hid (w2.heap.size ≤ p ∧ ∀ k, v.ownBlock = some k → w2.heap.size ≤ k) := ⟨hp, hvv⟩
  have HQ := Lib.hid hqd
  clear hR hp hqd hvv
  go_wp2_with fail
  refine HRO.out.mono ?_
  rintro e w4 ⟨hop, hb4⟩
  unfold ROpenP at hop
  dsimp only at hop
  obtain ⟨r, v2, rfl, hr, hqa, how⟩ := hop
  have HD4 := Lib.hid (HD3.out.below hb4)
  have HX4 := Lib.hid (fun (k : Nat) (o : Obj) (hk : W.heap[k]? = some o) (n3 : ¬ three dp b0 b1 k) (n2 : ¬ two cp cb k) => (hb4.block k (lt_of_heap (HX3.out k o hk n3 n2))).trans (HX3.out k o hk n3 n2))
  obtain ⟨⟨-, k1, -, k3, -⟩, f1, f3, -⟩ := bo_cells HD4.out.bx
  have HBO := Lib.hid (Bo.opened HD2.out HP.out.1 HQ.out HP.out.2 HB3.out hr hqa how hb4 HQ.out.fine)
  clear hb4 HRO hr hqa how
  go_wp2_with fail
  go_ret
  exact ⟨rfl, .inl ⟨_, _, _, _, _, HBO.out⟩, bo_02b HD4.out.bx _ _, fun k o hk n3 n2 nb => ((Below.heap_setCell _ _ _ _ nb).trans (Below.heap_setCell _ _ _ _ nb)).trans (HX4.out k o hk n3 n2), fun _ => ⟨_, _, _, _, _, HBO.out⟩⟩
end
/- Laws of the jobs: both queues do an act. Printed by gen_pj3.py. -/
section
open Go.RowKit Go.Shelf
/-- The act in a box. -/
def actObj (a : JAct) : Obj := .cells #[.int .u8 (a.what : Int), .int .i64 a.id, .int .i64 a.prio, .string (bytesOf a.client), .string (bytesOf a.token), .string (bytesOf a.text)] 40
theorem act_cells {W : World} {b : Nat} {a : JAct} (h : W.heap[b]? = some (actObj a)) :
  W.cell? ⟨b, 0, none⟩ = some (.int .u8 (a.what : Int)) ∧ W.cell? ⟨b, 1, none⟩ = some (.int .i64 a.id) ∧ W.cell? ⟨b, 2, none⟩ = some (.int .i64 a.prio) ∧ W.cell? ⟨b, 3, none⟩ = some (.string (bytesOf a.client)) ∧ W.cell? ⟨b, 4, none⟩ = some (.string (bytesOf a.token)) ∧ W.cell? ⟨b, 5, none⟩ = some (.string (bytesOf a.text)) := by
 unfold actObj at h
 simp [World.cell?, h]
theorem Bo.drew {B bb : Nat} {P : QP} {R : RQP} {v u : Value} {x y : Qst} {w W : World} (h : Bo B bb P R v u x y w W) : Bo B bb P R v u x y w W.drew := h.below (Below.refl _ _).drew
theorem Keep.drew {b : Nat} {o : Obj} {P : QP} {R : RQP} {v u : Value} {W : World} (h : Keep b o P R v u W) : Keep b o P R v u W.drew := h.below (Below.refl _ _).drew
theorem Keep.new {B bb b : Nat} {o : Obj} {P : QP} {R : RQP} {v u : Value} {x y : Qst} {w W W' : World} (h : Bo B bb P R v u x y w W) (hb : b = W.heap.size) (ho : W'.heap[b]? = some o) : Keep b o P R v u W' :=
 ⟨ho, fun e => by have := h.xa.lt b e; omega, fun e => by have := h.ya.lt b e; omega⟩
theorem act_4 (B bb : Nat) (P : QP) (R : RQP) (v u : Value) (x : Qst) (a : JAct) (w W : World) (h : Bo B bb P R v u x x w W) (hT : ∀ X, Below B w X → TabAt X) (hwf : a.wf) (htx : a.text.length ≤ 100000000) (hm : a.what % 14 = 4) :
  Calls Tryz.prog 10 #[.pointer (some ⟨bb, 0, none⟩), a.val] W fun e w' => e = .returned (.bool true) ∧ After B bb w w' := by
 have hwl := hwf.w0
 have hmi : ((a.what : Int)).tmod 14 = 4 := by
  rw [Int.tmod_eq_emod_of_nonneg (by omega)]; omega
 have hmi2 : (a.what : Int) % 14 = 4 := by omega
 obtain ⟨b, hb⟩ : ∃ b, b = W.heap.size := ⟨_, rfl⟩
 obtain ⟨W1, hW1⟩ : ∃ X, X = W.alloc (actObj a) := ⟨_, rfl⟩
 have g1 : W1.heap[b]? = some (actObj a) := by rw [hW1, hb]; exact alloc_last _ _ rfl
 have hb1 : Below W.heap.size W W1 := by rw [hW1]; exact (Below.refl _ W).alloc (Nat.le_refl _) _
 have HK := Lib.hid (Keep.new h hb g1)
 have HB := Lib.hid (h.below hb1)
 have HBW := Lib.hid hb
 have HT := Lib.hid hT
 have HWF := Lib.hid hwf
 have HTX := Lib.hid htx
 have h0 := Lib.hid h
 obtain ⟨k0, -⟩ := act_cells g1
 unfold actObj at hW1
 have HW1 := Lib.hid hW1
 clear g1 hb1 hW1 hb h hm hT hwf htx
 unfold JAct.val
 go_enter Tryz.func10, Tryz.ntmps10
 go_upto_region 1 with (fail)
 rw [← HW1.out, ← HBW.out]
 clear HW1 HBW h0
 go_upto_region 13 with (fail)
 clear k0 hmi hmi2
 obtain ⟨r, hr⟩ : ∃ r, r = x.save a.id a.text := ⟨_, rfl⟩
 have HC := Lib.hid (fun X hX => (Save_did P v x a.id a.text X hX))
 have HD := Lib.hid (fun u X hX => (rfSave_did R u x a.id a.text X hX))
 rw [← hr] at HC HD
 clear hr
 obtain ⟨r1, r2⟩ := r
 dsimp only at HC HD
 unfold strV at HC HD
 obtain ⟨⟨q0, q1, q2, q3, q4⟩, -⟩ := bo_cells HB.out.bx.hp
 obtain ⟨k0, k1, k2, k3, k4, k5⟩ := act_cells HK.out.hp
 refine wp_region_heldL (fun w' => w'.cell? ⟨bb, 1, none⟩ = some (.pointer (some ⟨P.p, 0, none⟩)) ∧ w'.cell? ⟨bb, 3, none⟩ = some (.pointer (some ⟨R.p, 0, none⟩)) ∧ w'.cell? ⟨b, 1, none⟩ = some (.int .i64 a.id) ∧ w'.cell? ⟨b, 5, none⟩ = some (.string (bytesOf a.text))) (by kernel_rfl) ⟨q1, q3, k1, k5⟩ (fun hS => ?_)
 clear q0 q1 q2 q3 q4 k0 k1 k2 k3 k4 k5
 refine tkH 0 (v := ?_) rfl ?_ ?_
 rotate_left
 ·(intro wq hSq; (try dsimp only at hSq); go_simp; try with_reducible rfl)
 try simp only [q0P, q0Q, q0R, q0S]
 refine tkH 1 (v := ?_) rfl ?_ ?_
 rotate_left
 ·(intro wq hSq; (try dsimp only at hSq); go_simp; try with_reducible rfl)
 try simp only [q0P, q0Q, q0R, q0S]
 refine tkH 2 (v := ?_) rfl ?_ ?_
 rotate_left
 ·(intro wq hSq; (try dsimp only at hSq); go_simp; try with_reducible rfl)
 try simp only [q0P, q0Q, q0R, q0S]
 refine tkH 3 (v := ?_) rfl ?_ ?_
 rotate_left
 ·(intro wq hSq; (try dsimp only at hSq); go_simp; try with_reducible rfl)
 try simp only [q0P, q0Q, q0R, q0S]
 refine tkH 4 (v := ?_) rfl ?_ ?_
 rotate_left
 ·(intro wq hSq; (try dsimp only at hSq); go_simp; try with_reducible rfl)
 try simp only [q0P, q0Q, q0R, q0S]
 refine tkH 5 (v := ?_) rfl ?_ ?_
 rotate_left
 ·(intro wq hSq; (try dsimp only at hSq); go_simp; try with_reducible rfl)
 try simp only [q0P, q0Q, q0R, q0S]
 refine tkH 6 (v := ?_) rfl ?_ ?_
 rotate_left
 ·(intro wq hSq; (try dsimp only at hSq); go_simp; try with_reducible rfl)
 try simp only [q0P, q0Q, q0R, q0S]
 refine tkH 7 (v := ?_) rfl ?_ ?_
 rotate_left
 ·(intro wq hSq; (try dsimp only at hSq); go_simp; try with_reducible rfl)
 try simp only [q0P, q0Q, q0R, q0S]
 refine tkH 9 (v := ?_) rfl ?_ ?_
 rotate_left
 ·(intro wq hSq; (try dsimp only at hSq); go_simp; try with_reducible rfl)
 try simp only [q0P, q0Q, q0R, q0S]
 refine tkH 10 (v := ?_) rfl ?_ ?_
 rotate_left
 ·(intro wq hSq; (try dsimp only at hSq); go_simp; try with_reducible rfl)
 try simp only [q0P, q0Q, q0R, q0S]
 refine tkH 11 (v := ?_) rfl ?_ ?_
 rotate_left
 ·(intro wq hSq; (try dsimp only at hSq); go_simp; try with_reducible rfl)
 try simp only [q0P, q0Q, q0R, q0S]
 refine tkH 12 (v := ?_) rfl ?_ ?_
 rotate_left
 ·(intro wq hSq; (try dsimp only at hSq); go_simp; try with_reducible rfl)
 try simp only [q0P, q0Q, q0R, q0S]
 refine tkH 13 (v := ?_) rfl ?_ ?_
 rotate_left
 ·(intro wq hSq; (try dsimp only at hSq); go_simp; try with_reducible rfl)
 try simp only [q0P, q0Q, q0R, q0S]
 refine tkH 14 (v := ?_) rfl ?_ ?_
 rotate_left
 ·(intro wq hSq; (try dsimp only at hSq); go_simp; try with_reducible rfl)
 try simp only [q0P, q0Q, q0R, q0S]
 refine tkH 15 (v := ?_) rfl ?_ ?_
 rotate_left
 ·(intro wq hSq; (try dsimp only at hSq); go_simp; try with_reducible rfl)
 try simp only [q0P, q0Q, q0R, q0S]
 refine tkH 16 (v := ?_) rfl ?_ ?_
 rotate_left
 ·(intro wq hSq; (try dsimp only at hSq); go_simp; try with_reducible rfl)
 try simp only [q0P, q0Q, q0R, q0S]
 have HB1 := Lib.hid HB.out.drew
 have HK1 := Lib.hid HK.out.drew
 clear HB HK
 refine wpAnyH_stepL 8 (by kernel_rfl) rfl (fun K hK => ?_)
 go_simp
 go_at_call 15
 refine (HC.out _ HB1.out.xa).mono ?_
 rintro e w2 ⟨rfl, v2, hq2, hs2⟩
 have HB2 := Lib.hid (HB1.out.left hq2 hs2)
 have HK2 := Lib.hid (HK1.out.left hs2)
 clear hq2 hs2 HB1 HK1
 obtain ⟨⟨q0, q1, q2, q3, q4⟩, -⟩ := bo_cells HB2.out.bx.hp
 obtain ⟨k0, k1, k2, k3, k4, k5⟩ := act_cells HK2.out.hp
 refine hK.out _ _ ⟨q1, q3, k1, k5⟩ (fun hS2 => ?_)
 clear hK K hS
 clear q0 q1 q2 q3 q4 k0 k1 k2 k3 k4 k5
 try simp only [q0P, q0Q, q0R, q0S]
 refine wpAnyH_stepL 17 (by kernel_rfl) rfl (fun K hK => ?_)
 go_simp
 go_at_call 27
 refine (HD.out _ _ HB2.out.ya).mono ?_
 rintro e w3 ⟨rfl, u3, hq3, hs3⟩
 have HB3 := Lib.hid (HB2.out.right hq3 hs3)
 have HK3 := Lib.hid (HK2.out.right hs3)
 clear hq3 hs3 HB2 HK2
 obtain ⟨⟨q0, q1, q2, q3, q4⟩, -⟩ := bo_cells HB3.out.bx.hp
 obtain ⟨k0, k1, k2, k3, k4, k5⟩ := act_cells HK3.out.hp
 refine hK.out _ _ ⟨q1, q3, k1, k5⟩ (fun hS3 => ?_)
 clear hK K hS2
 clear q0 q1 q2 q3 q4 k0 k1 k2 k3 k4 k5
 try simp only [q0P, q0Q, q0R, q0S]
 refine tkH 18 (v := ?_) rfl ?_ ?_
 rotate_left
 ·(intro wq hSq; (try dsimp only at hSq); go_simp; try with_reducible rfl)
 try simp only [q0P, q0Q, q0R, q0S]
 refine tkH 19 (v := ?_) rfl ?_ ?_
 rotate_left
 ·(intro wq hSq; (try dsimp only at hSq); go_simp; try with_reducible rfl)
 try simp only [q0P, q0Q, q0R, q0S]
 refine wpAnyH_end (by kernel_rfl) ?_
 go_wp2_with fail
 go_ret
 exact ⟨rfl, .inl ⟨_, _, _, _, _, HB3.out⟩⟩
theorem act_6 (B bb : Nat) (P : QP) (R : RQP) (v u : Value) (x : Qst) (a : JAct) (w W : World) (h : Bo B bb P R v u x x w W) (hT : ∀ X, Below B w X → TabAt X) (hwf : a.wf) (htx : a.text.length ≤ 100000000) (hm : a.what % 14 = 6) :
  Calls Tryz.prog 10 #[.pointer (some ⟨bb, 0, none⟩), a.val] W fun e w' => e = .returned (.bool true) ∧ After B bb w w' := by
 have hwl := hwf.w0
 have hmi : ((a.what : Int)).tmod 14 = 6 := by
  rw [Int.tmod_eq_emod_of_nonneg (by omega)]; omega
 have hmi2 : (a.what : Int) % 14 = 6 := by omega
 obtain ⟨b, hb⟩ : ∃ b, b = W.heap.size := ⟨_, rfl⟩
 obtain ⟨W1, hW1⟩ : ∃ X, X = W.alloc (actObj a) := ⟨_, rfl⟩
 have g1 : W1.heap[b]? = some (actObj a) := by rw [hW1, hb]; exact alloc_last _ _ rfl
 have hb1 : Below W.heap.size W W1 := by rw [hW1]; exact (Below.refl _ W).alloc (Nat.le_refl _) _
 have HK := Lib.hid (Keep.new h hb g1)
 have HB := Lib.hid (h.below hb1)
 have HBW := Lib.hid hb
 have HT := Lib.hid hT
 have HWF := Lib.hid hwf
 have HTX := Lib.hid htx
 have h0 := Lib.hid h
 obtain ⟨k0, -⟩ := act_cells g1
 unfold actObj at hW1
 have HW1 := Lib.hid hW1
 clear g1 hb1 hW1 hb h hm hT hwf htx
 unfold JAct.val
 go_enter Tryz.func10, Tryz.ntmps10
 go_upto_region 1 with (fail)
 rw [← HW1.out, ← HBW.out]
 clear HW1 HBW h0
 go_upto_region 17 with (fail)
 clear k0 hmi hmi2
 obtain ⟨r, hr⟩ : ∃ r, r = x.finish a.id 3 a.text := ⟨_, rfl⟩
 have HC := Lib.hid (fun X hX => (Finish_did P v x a.id a.text X hX))
 have HD := Lib.hid (fun u X hX => (rfFinish_did R u x a.id a.text X hX))
 rw [← hr] at HC HD
 clear hr
 obtain ⟨r1, r2⟩ := r
 dsimp only at HC HD
 unfold strV at HC HD
 obtain ⟨⟨q0, q1, q2, q3, q4⟩, -⟩ := bo_cells HB.out.bx.hp
 obtain ⟨k0, k1, k2, k3, k4, k5⟩ := act_cells HK.out.hp
 refine wp_region_heldL (fun w' => w'.cell? ⟨bb, 1, none⟩ = some (.pointer (some ⟨P.p, 0, none⟩)) ∧ w'.cell? ⟨bb, 3, none⟩ = some (.pointer (some ⟨R.p, 0, none⟩)) ∧ w'.cell? ⟨b, 1, none⟩ = some (.int .i64 a.id) ∧ w'.cell? ⟨b, 5, none⟩ = some (.string (bytesOf a.text))) (by kernel_rfl) ⟨q1, q3, k1, k5⟩ (fun hS => ?_)
 clear q0 q1 q2 q3 q4 k0 k1 k2 k3 k4 k5
 refine tkH 0 (v := ?_) rfl ?_ ?_
 rotate_left
 ·(intro wq hSq; (try dsimp only at hSq); go_simp; try with_reducible rfl)
 try simp only [q0P, q0Q, q0R, q0S]
 refine tkH 1 (v := ?_) rfl ?_ ?_
 rotate_left
 ·(intro wq hSq; (try dsimp only at hSq); go_simp; try with_reducible rfl)
 try simp only [q0P, q0Q, q0R, q0S]
 refine tkH 2 (v := ?_) rfl ?_ ?_
 rotate_left
 ·(intro wq hSq; (try dsimp only at hSq); go_simp; try with_reducible rfl)
 try simp only [q0P, q0Q, q0R, q0S]
 refine tkH 3 (v := ?_) rfl ?_ ?_
 rotate_left
 ·(intro wq hSq; (try dsimp only at hSq); go_simp; try with_reducible rfl)
 try simp only [q0P, q0Q, q0R, q0S]
 refine tkH 4 (v := ?_) rfl ?_ ?_
 rotate_left
 ·(intro wq hSq; (try dsimp only at hSq); go_simp; try with_reducible rfl)
 try simp only [q0P, q0Q, q0R, q0S]
 refine tkH 5 (v := ?_) rfl ?_ ?_
 rotate_left
 ·(intro wq hSq; (try dsimp only at hSq); go_simp; try with_reducible rfl)
 try simp only [q0P, q0Q, q0R, q0S]
 refine tkH 6 (v := ?_) rfl ?_ ?_
 rotate_left
 ·(intro wq hSq; (try dsimp only at hSq); go_simp; try with_reducible rfl)
 try simp only [q0P, q0Q, q0R, q0S]
 refine tkH 7 (v := ?_) rfl ?_ ?_
 rotate_left
 ·(intro wq hSq; (try dsimp only at hSq); go_simp; try with_reducible rfl)
 try simp only [q0P, q0Q, q0R, q0S]
 refine tkH 9 (v := ?_) rfl ?_ ?_
 rotate_left
 ·(intro wq hSq; (try dsimp only at hSq); go_simp; try with_reducible rfl)
 try simp only [q0P, q0Q, q0R, q0S]
 refine tkH 10 (v := ?_) rfl ?_ ?_
 rotate_left
 ·(intro wq hSq; (try dsimp only at hSq); go_simp; try with_reducible rfl)
 try simp only [q0P, q0Q, q0R, q0S]
 refine tkH 11 (v := ?_) rfl ?_ ?_
 rotate_left
 ·(intro wq hSq; (try dsimp only at hSq); go_simp; try with_reducible rfl)
 try simp only [q0P, q0Q, q0R, q0S]
 refine tkH 12 (v := ?_) rfl ?_ ?_
 rotate_left
 ·(intro wq hSq; (try dsimp only at hSq); go_simp; try with_reducible rfl)
 try simp only [q0P, q0Q, q0R, q0S]
 refine tkH 13 (v := ?_) rfl ?_ ?_
 rotate_left
 ·(intro wq hSq; (try dsimp only at hSq); go_simp; try with_reducible rfl)
 try simp only [q0P, q0Q, q0R, q0S]
 refine tkH 14 (v := ?_) rfl ?_ ?_
 rotate_left
 ·(intro wq hSq; (try dsimp only at hSq); go_simp; try with_reducible rfl)
 try simp only [q0P, q0Q, q0R, q0S]
 refine tkH 15 (v := ?_) rfl ?_ ?_
 rotate_left
 ·(intro wq hSq; (try dsimp only at hSq); go_simp; try with_reducible rfl)
 try simp only [q0P, q0Q, q0R, q0S]
 refine tkH 16 (v := ?_) rfl ?_ ?_
 rotate_left
 ·(intro wq hSq; (try dsimp only at hSq); go_simp; try with_reducible rfl)
 try simp only [q0P, q0Q, q0R, q0S]
 have HB1 := Lib.hid HB.out.drew
 have HK1 := Lib.hid HK.out.drew
 clear HB HK
 refine wpAnyH_stepL 8 (by kernel_rfl) rfl (fun K hK => ?_)
 go_simp
 go_at_call 16
 refine (HC.out _ HB1.out.xa).mono ?_
 rintro e w2 ⟨rfl, v2, hq2, hs2⟩
 have HB2 := Lib.hid (HB1.out.left hq2 hs2)
 have HK2 := Lib.hid (HK1.out.left hs2)
 clear hq2 hs2 HB1 HK1
 obtain ⟨⟨q0, q1, q2, q3, q4⟩, -⟩ := bo_cells HB2.out.bx.hp
 obtain ⟨k0, k1, k2, k3, k4, k5⟩ := act_cells HK2.out.hp
 refine hK.out _ _ ⟨q1, q3, k1, k5⟩ (fun hS2 => ?_)
 clear hK K hS
 clear q0 q1 q2 q3 q4 k0 k1 k2 k3 k4 k5
 try simp only [q0P, q0Q, q0R, q0S]
 refine wpAnyH_stepL 17 (by kernel_rfl) rfl (fun K hK => ?_)
 go_simp
 go_at_call 30
 refine (HD.out _ _ HB2.out.ya).mono ?_
 rintro e w3 ⟨rfl, u3, hq3, hs3⟩
 have HB3 := Lib.hid (HB2.out.right hq3 hs3)
 have HK3 := Lib.hid (HK2.out.right hs3)
 clear hq3 hs3 HB2 HK2
 obtain ⟨⟨q0, q1, q2, q3, q4⟩, -⟩ := bo_cells HB3.out.bx.hp
 obtain ⟨k0, k1, k2, k3, k4, k5⟩ := act_cells HK3.out.hp
 refine hK.out _ _ ⟨q1, q3, k1, k5⟩ (fun hS3 => ?_)
 clear hK K hS2
 clear q0 q1 q2 q3 q4 k0 k1 k2 k3 k4 k5
 try simp only [q0P, q0Q, q0R, q0S]
 refine tkH 18 (v := ?_) rfl ?_ ?_
 rotate_left
 ·(intro wq hSq; (try dsimp only at hSq); go_simp; try with_reducible rfl)
 try simp only [q0P, q0Q, q0R, q0S]
 refine tkH 19 (v := ?_) rfl ?_ ?_
 rotate_left
 ·(intro wq hSq; (try dsimp only at hSq); go_simp; try with_reducible rfl)
 try simp only [q0P, q0Q, q0R, q0S]
 refine wpAnyH_end (by kernel_rfl) ?_
 go_wp2_with fail
 go_ret
 exact ⟨rfl, .inl ⟨_, _, _, _, _, HB3.out⟩⟩
theorem act_7 (B bb : Nat) (P : QP) (R : RQP) (v u : Value) (x : Qst) (a : JAct) (w W : World) (h : Bo B bb P R v u x x w W) (hT : ∀ X, Below B w X → TabAt X) (hwf : a.wf) (htx : a.text.length ≤ 100000000) (hm : a.what % 14 = 7) :
  Calls Tryz.prog 10 #[.pointer (some ⟨bb, 0, none⟩), a.val] W fun e w' => e = .returned (.bool true) ∧ After B bb w w' := by
 have hwl := hwf.w0
 have hmi : ((a.what : Int)).tmod 14 = 7 := by
  rw [Int.tmod_eq_emod_of_nonneg (by omega)]; omega
 have hmi2 : (a.what : Int) % 14 = 7 := by omega
 obtain ⟨b, hb⟩ : ∃ b, b = W.heap.size := ⟨_, rfl⟩
 obtain ⟨W1, hW1⟩ : ∃ X, X = W.alloc (actObj a) := ⟨_, rfl⟩
 have g1 : W1.heap[b]? = some (actObj a) := by rw [hW1, hb]; exact alloc_last _ _ rfl
 have hb1 : Below W.heap.size W W1 := by rw [hW1]; exact (Below.refl _ W).alloc (Nat.le_refl _) _
 have HK := Lib.hid (Keep.new h hb g1)
 have HB := Lib.hid (h.below hb1)
 have HBW := Lib.hid hb
 have HT := Lib.hid hT
 have HWF := Lib.hid hwf
 have HTX := Lib.hid htx
 have h0 := Lib.hid h
 obtain ⟨k0, -⟩ := act_cells g1
 unfold actObj at hW1
 have HW1 := Lib.hid hW1
 clear g1 hb1 hW1 hb h hm hT hwf htx
 unfold JAct.val
 go_enter Tryz.func10, Tryz.ntmps10
 go_upto_region 1 with (fail)
 rw [← HW1.out, ← HBW.out]
 clear HW1 HBW h0
 go_upto_region 19 with (fail)
 clear k0 hmi hmi2
 obtain ⟨r, hr⟩ : ∃ r, r = x.finish a.id 4 a.text := ⟨_, rfl⟩
 have HC := Lib.hid (fun X hX => (Fail_did P v x a.id a.text X hX))
 have HD := Lib.hid (fun u X hX => (rfFail_did R u x a.id a.text X hX))
 rw [← hr] at HC HD
 clear hr
 obtain ⟨r1, r2⟩ := r
 dsimp only at HC HD
 unfold strV at HC HD
 obtain ⟨⟨q0, q1, q2, q3, q4⟩, -⟩ := bo_cells HB.out.bx.hp
 obtain ⟨k0, k1, k2, k3, k4, k5⟩ := act_cells HK.out.hp
 refine wp_region_heldL (fun w' => w'.cell? ⟨bb, 1, none⟩ = some (.pointer (some ⟨P.p, 0, none⟩)) ∧ w'.cell? ⟨bb, 3, none⟩ = some (.pointer (some ⟨R.p, 0, none⟩)) ∧ w'.cell? ⟨b, 1, none⟩ = some (.int .i64 a.id) ∧ w'.cell? ⟨b, 5, none⟩ = some (.string (bytesOf a.text))) (by kernel_rfl) ⟨q1, q3, k1, k5⟩ (fun hS => ?_)
 clear q0 q1 q2 q3 q4 k0 k1 k2 k3 k4 k5
 refine tkH 0 (v := ?_) rfl ?_ ?_
 rotate_left
 ·(intro wq hSq; (try dsimp only at hSq); go_simp; try with_reducible rfl)
 try simp only [q0P, q0Q, q0R, q0S]
 refine tkH 1 (v := ?_) rfl ?_ ?_
 rotate_left
 ·(intro wq hSq; (try dsimp only at hSq); go_simp; try with_reducible rfl)
 try simp only [q0P, q0Q, q0R, q0S]
 refine tkH 2 (v := ?_) rfl ?_ ?_
 rotate_left
 ·(intro wq hSq; (try dsimp only at hSq); go_simp; try with_reducible rfl)
 try simp only [q0P, q0Q, q0R, q0S]
 refine tkH 3 (v := ?_) rfl ?_ ?_
 rotate_left
 ·(intro wq hSq; (try dsimp only at hSq); go_simp; try with_reducible rfl)
 try simp only [q0P, q0Q, q0R, q0S]
 refine tkH 4 (v := ?_) rfl ?_ ?_
 rotate_left
 ·(intro wq hSq; (try dsimp only at hSq); go_simp; try with_reducible rfl)
 try simp only [q0P, q0Q, q0R, q0S]
 refine tkH 5 (v := ?_) rfl ?_ ?_
 rotate_left
 ·(intro wq hSq; (try dsimp only at hSq); go_simp; try with_reducible rfl)
 try simp only [q0P, q0Q, q0R, q0S]
 refine tkH 6 (v := ?_) rfl ?_ ?_
 rotate_left
 ·(intro wq hSq; (try dsimp only at hSq); go_simp; try with_reducible rfl)
 try simp only [q0P, q0Q, q0R, q0S]
 refine tkH 7 (v := ?_) rfl ?_ ?_
 rotate_left
 ·(intro wq hSq; (try dsimp only at hSq); go_simp; try with_reducible rfl)
 try simp only [q0P, q0Q, q0R, q0S]
 refine tkH 9 (v := ?_) rfl ?_ ?_
 rotate_left
 ·(intro wq hSq; (try dsimp only at hSq); go_simp; try with_reducible rfl)
 try simp only [q0P, q0Q, q0R, q0S]
 refine tkH 10 (v := ?_) rfl ?_ ?_
 rotate_left
 ·(intro wq hSq; (try dsimp only at hSq); go_simp; try with_reducible rfl)
 try simp only [q0P, q0Q, q0R, q0S]
 refine tkH 11 (v := ?_) rfl ?_ ?_
 rotate_left
 ·(intro wq hSq; (try dsimp only at hSq); go_simp; try with_reducible rfl)
 try simp only [q0P, q0Q, q0R, q0S]
 refine tkH 12 (v := ?_) rfl ?_ ?_
 rotate_left
 ·(intro wq hSq; (try dsimp only at hSq); go_simp; try with_reducible rfl)
 try simp only [q0P, q0Q, q0R, q0S]
 refine tkH 13 (v := ?_) rfl ?_ ?_
 rotate_left
 ·(intro wq hSq; (try dsimp only at hSq); go_simp; try with_reducible rfl)
 try simp only [q0P, q0Q, q0R, q0S]
 refine tkH 14 (v := ?_) rfl ?_ ?_
 rotate_left
 ·(intro wq hSq; (try dsimp only at hSq); go_simp; try with_reducible rfl)
 try simp only [q0P, q0Q, q0R, q0S]
 refine tkH 15 (v := ?_) rfl ?_ ?_
 rotate_left
 ·(intro wq hSq; (try dsimp only at hSq); go_simp; try with_reducible rfl)
 try simp only [q0P, q0Q, q0R, q0S]
 refine tkH 16 (v := ?_) rfl ?_ ?_
 rotate_left
 ·(intro wq hSq; (try dsimp only at hSq); go_simp; try with_reducible rfl)
 try simp only [q0P, q0Q, q0R, q0S]
 have HB1 := Lib.hid HB.out.drew
 have HK1 := Lib.hid HK.out.drew
 clear HB HK
 refine wpAnyH_stepL 8 (by kernel_rfl) rfl (fun K hK => ?_)
 go_simp
 go_at_call 31
 refine (HC.out _ HB1.out.xa).mono ?_
 rintro e w2 ⟨rfl, v2, hq2, hs2⟩
 have HB2 := Lib.hid (HB1.out.left hq2 hs2)
 have HK2 := Lib.hid (HK1.out.left hs2)
 clear hq2 hs2 HB1 HK1
 obtain ⟨⟨q0, q1, q2, q3, q4⟩, -⟩ := bo_cells HB2.out.bx.hp
 obtain ⟨k0, k1, k2, k3, k4, k5⟩ := act_cells HK2.out.hp
 refine hK.out _ _ ⟨q1, q3, k1, k5⟩ (fun hS2 => ?_)
 clear hK K hS
 clear q0 q1 q2 q3 q4 k0 k1 k2 k3 k4 k5
 try simp only [q0P, q0Q, q0R, q0S]
 refine wpAnyH_stepL 17 (by kernel_rfl) rfl (fun K hK => ?_)
 go_simp
 go_at_call 32
 refine (HD.out _ _ HB2.out.ya).mono ?_
 rintro e w3 ⟨rfl, u3, hq3, hs3⟩
 have HB3 := Lib.hid (HB2.out.right hq3 hs3)
 have HK3 := Lib.hid (HK2.out.right hs3)
 clear hq3 hs3 HB2 HK2
 obtain ⟨⟨q0, q1, q2, q3, q4⟩, -⟩ := bo_cells HB3.out.bx.hp
 obtain ⟨k0, k1, k2, k3, k4, k5⟩ := act_cells HK3.out.hp
 refine hK.out _ _ ⟨q1, q3, k1, k5⟩ (fun hS3 => ?_)
 clear hK K hS2
 clear q0 q1 q2 q3 q4 k0 k1 k2 k3 k4 k5
 try simp only [q0P, q0Q, q0R, q0S]
 refine tkH 18 (v := ?_) rfl ?_ ?_
 rotate_left
 ·(intro wq hSq; (try dsimp only at hSq); go_simp; try with_reducible rfl)
 try simp only [q0P, q0Q, q0R, q0S]
 refine tkH 19 (v := ?_) rfl ?_ ?_
 rotate_left
 ·(intro wq hSq; (try dsimp only at hSq); go_simp; try with_reducible rfl)
 try simp only [q0P, q0Q, q0R, q0S]
 refine wpAnyH_end (by kernel_rfl) ?_
 go_wp2_with fail
 go_ret
 exact ⟨rfl, .inl ⟨_, _, _, _, _, HB3.out⟩⟩
theorem act_5 (B bb : Nat) (P : QP) (R : RQP) (v u : Value) (x : Qst) (a : JAct) (w W : World) (h : Bo B bb P R v u x x w W) (hT : ∀ X, Below B w X → TabAt X) (hwf : a.wf) (htx : a.text.length ≤ 100000000) (hm : a.what % 14 = 5) :
  Calls Tryz.prog 10 #[.pointer (some ⟨bb, 0, none⟩), a.val] W fun e w' => e = .returned (.bool true) ∧ After B bb w w' := by
 have hwl := hwf.w0
 have hmi : ((a.what : Int)).tmod 14 = 5 := by
  rw [Int.tmod_eq_emod_of_nonneg (by omega)]; omega
 have hmi2 : (a.what : Int) % 14 = 5 := by omega
 obtain ⟨b, hb⟩ : ∃ b, b = W.heap.size := ⟨_, rfl⟩
 obtain ⟨W1, hW1⟩ : ∃ X, X = W.alloc (actObj a) := ⟨_, rfl⟩
 have g1 : W1.heap[b]? = some (actObj a) := by rw [hW1, hb]; exact alloc_last _ _ rfl
 have hb1 : Below W.heap.size W W1 := by rw [hW1]; exact (Below.refl _ W).alloc (Nat.le_refl _) _
 have HK := Lib.hid (Keep.new h hb g1)
 have HB := Lib.hid (h.below hb1)
 have HBW := Lib.hid hb
 have HT := Lib.hid hT
 have HWF := Lib.hid hwf
 have HTX := Lib.hid htx
 have h0 := Lib.hid h
 obtain ⟨k0, -⟩ := act_cells g1
 unfold actObj at hW1
 have HW1 := Lib.hid hW1
 clear g1 hb1 hW1 hb h hm hT hwf htx
 unfold JAct.val
 go_enter Tryz.func10, Tryz.ntmps10
 go_upto_region 1 with (fail)
 rw [← HW1.out, ← HBW.out]
 clear HW1 HBW h0
 go_upto_region 15 with (fail)
 clear k0 hmi hmi2
 obtain ⟨r, hr⟩ : ∃ r, r = x.give a.id := ⟨_, rfl⟩
 have HC := Lib.hid (fun X hX => (Give_did P v x a.id X hX))
 have HD := Lib.hid (fun u X hX => (rfGive_did R u x a.id X hX))
 rw [← hr] at HC HD
 clear hr
 obtain ⟨r1, r2⟩ := r
 dsimp only at HC HD
 obtain ⟨⟨q0, q1, q2, q3, q4⟩, -⟩ := bo_cells HB.out.bx.hp
 obtain ⟨k0, k1, k2, k3, k4, k5⟩ := act_cells HK.out.hp
 refine wp_region_heldL (fun w' => w'.cell? ⟨bb, 1, none⟩ = some (.pointer (some ⟨P.p, 0, none⟩)) ∧ w'.cell? ⟨bb, 3, none⟩ = some (.pointer (some ⟨R.p, 0, none⟩)) ∧ w'.cell? ⟨b, 1, none⟩ = some (.int .i64 a.id)) (by kernel_rfl) ⟨q1, q3, k1⟩ (fun hS => ?_)
 clear q0 q1 q2 q3 q4 k0 k1 k2 k3 k4 k5
 refine tkH 0 (v := ?_) rfl ?_ ?_
 rotate_left
 ·(intro wq hSq; (try dsimp only at hSq); go_simp; try with_reducible rfl)
 try simp only [q0P, q0Q, q0R, q0S]
 refine tkH 1 (v := ?_) rfl ?_ ?_
 rotate_left
 ·(intro wq hSq; (try dsimp only at hSq); go_simp; try with_reducible rfl)
 try simp only [q0P, q0Q, q0R, q0S]
 refine tkH 2 (v := ?_) rfl ?_ ?_
 rotate_left
 ·(intro wq hSq; (try dsimp only at hSq); go_simp; try with_reducible rfl)
 try simp only [q0P, q0Q, q0R, q0S]
 refine tkH 3 (v := ?_) rfl ?_ ?_
 rotate_left
 ·(intro wq hSq; (try dsimp only at hSq); go_simp; try with_reducible rfl)
 try simp only [q0P, q0Q, q0R, q0S]
 refine tkH 4 (v := ?_) rfl ?_ ?_
 rotate_left
 ·(intro wq hSq; (try dsimp only at hSq); go_simp; try with_reducible rfl)
 try simp only [q0P, q0Q, q0R, q0S]
 refine tkH 5 (v := ?_) rfl ?_ ?_
 rotate_left
 ·(intro wq hSq; (try dsimp only at hSq); go_simp; try with_reducible rfl)
 try simp only [q0P, q0Q, q0R, q0S]
 refine tkH 7 (v := ?_) rfl ?_ ?_
 rotate_left
 ·(intro wq hSq; (try dsimp only at hSq); go_simp; try with_reducible rfl)
 try simp only [q0P, q0Q, q0R, q0S]
 refine tkH 8 (v := ?_) rfl ?_ ?_
 rotate_left
 ·(intro wq hSq; (try dsimp only at hSq); go_simp; try with_reducible rfl)
 try simp only [q0P, q0Q, q0R, q0S]
 refine tkH 9 (v := ?_) rfl ?_ ?_
 rotate_left
 ·(intro wq hSq; (try dsimp only at hSq); go_simp; try with_reducible rfl)
 try simp only [q0P, q0Q, q0R, q0S]
 refine tkH 10 (v := ?_) rfl ?_ ?_
 rotate_left
 ·(intro wq hSq; (try dsimp only at hSq); go_simp; try with_reducible rfl)
 try simp only [q0P, q0Q, q0R, q0S]
 refine tkH 11 (v := ?_) rfl ?_ ?_
 rotate_left
 ·(intro wq hSq; (try dsimp only at hSq); go_simp; try with_reducible rfl)
 try simp only [q0P, q0Q, q0R, q0S]
 refine tkH 12 (v := ?_) rfl ?_ ?_
 rotate_left
 ·(intro wq hSq; (try dsimp only at hSq); go_simp; try with_reducible rfl)
 try simp only [q0P, q0Q, q0R, q0S]
 have HB1 := Lib.hid HB.out.drew
 have HK1 := Lib.hid HK.out.drew
 clear HB HK
 refine wpAnyH_stepL 6 (by kernel_rfl) rfl (fun K hK => ?_)
 go_simp
 go_at_call 28
 refine (HC.out _ HB1.out.xa).mono ?_
 rintro e w2 ⟨rfl, v2, hq2, hs2⟩
 have HB2 := Lib.hid (HB1.out.left hq2 hs2)
 have HK2 := Lib.hid (HK1.out.left hs2)
 clear hq2 hs2 HB1 HK1
 obtain ⟨⟨q0, q1, q2, q3, q4⟩, -⟩ := bo_cells HB2.out.bx.hp
 obtain ⟨k0, k1, k2, k3, k4, k5⟩ := act_cells HK2.out.hp
 refine hK.out _ _ ⟨q1, q3, k1⟩ (fun hS2 => ?_)
 clear hK K hS
 clear q0 q1 q2 q3 q4 k0 k1 k2 k3 k4 k5
 try simp only [q0P, q0Q, q0R, q0S]
 refine wpAnyH_stepL 13 (by kernel_rfl) rfl (fun K hK => ?_)
 go_simp
 go_at_call 29
 refine (HD.out _ _ HB2.out.ya).mono ?_
 rintro e w3 ⟨rfl, u3, hq3, hs3⟩
 have HB3 := Lib.hid (HB2.out.right hq3 hs3)
 have HK3 := Lib.hid (HK2.out.right hs3)
 clear hq3 hs3 HB2 HK2
 obtain ⟨⟨q0, q1, q2, q3, q4⟩, -⟩ := bo_cells HB3.out.bx.hp
 obtain ⟨k0, k1, k2, k3, k4, k5⟩ := act_cells HK3.out.hp
 refine hK.out _ _ ⟨q1, q3, k1⟩ (fun hS3 => ?_)
 clear hK K hS2
 clear q0 q1 q2 q3 q4 k0 k1 k2 k3 k4 k5
 try simp only [q0P, q0Q, q0R, q0S]
 refine tkH 14 (v := ?_) rfl ?_ ?_
 rotate_left
 ·(intro wq hSq; (try dsimp only at hSq); go_simp; try with_reducible rfl)
 try simp only [q0P, q0Q, q0R, q0S]
 refine tkH 15 (v := ?_) rfl ?_ ?_
 rotate_left
 ·(intro wq hSq; (try dsimp only at hSq); go_simp; try with_reducible rfl)
 try simp only [q0P, q0Q, q0R, q0S]
 refine wpAnyH_end (by kernel_rfl) ?_
 go_wp2_with fail
 go_ret
 exact ⟨rfl, .inl ⟨_, _, _, _, _, HB3.out⟩⟩
theorem act_8 (B bb : Nat) (P : QP) (R : RQP) (v u : Value) (x : Qst) (a : JAct) (w W : World) (h : Bo B bb P R v u x x w W) (hT : ∀ X, Below B w X → TabAt X) (hwf : a.wf) (htx : a.text.length ≤ 100000000) (hm : a.what % 14 = 8) :
  Calls Tryz.prog 10 #[.pointer (some ⟨bb, 0, none⟩), a.val] W fun e w' => e = .returned (.bool true) ∧ After B bb w w' := by
 have hwl := hwf.w0
 have hmi : ((a.what : Int)).tmod 14 = 8 := by
  rw [Int.tmod_eq_emod_of_nonneg (by omega)]; omega
 have hmi2 : (a.what : Int) % 14 = 8 := by omega
 obtain ⟨b, hb⟩ : ∃ b, b = W.heap.size := ⟨_, rfl⟩
 obtain ⟨W1, hW1⟩ : ∃ X, X = W.alloc (actObj a) := ⟨_, rfl⟩
 have g1 : W1.heap[b]? = some (actObj a) := by rw [hW1, hb]; exact alloc_last _ _ rfl
 have hb1 : Below W.heap.size W W1 := by rw [hW1]; exact (Below.refl _ W).alloc (Nat.le_refl _) _
 have HK := Lib.hid (Keep.new h hb g1)
 have HB := Lib.hid (h.below hb1)
 have HBW := Lib.hid hb
 have HT := Lib.hid hT
 have HWF := Lib.hid hwf
 have HTX := Lib.hid htx
 have h0 := Lib.hid h
 obtain ⟨k0, -⟩ := act_cells g1
 unfold actObj at hW1
 have HW1 := Lib.hid hW1
 clear g1 hb1 hW1 hb h hm hT hwf htx
 unfold JAct.val
 go_enter Tryz.func10, Tryz.ntmps10
 go_upto_region 1 with (fail)
 rw [← HW1.out, ← HBW.out]
 clear HW1 HBW h0
 go_upto_region 21 with (fail)
 clear k0 hmi hmi2
 obtain ⟨r, hr⟩ : ∃ r, r = x.cancel a.id := ⟨_, rfl⟩
 have HC := Lib.hid (fun X hX => (Cancel_did P v x a.id X hX))
 have HD := Lib.hid (fun u X hX => (rfCancel_did R u x a.id X hX))
 rw [← hr] at HC HD
 clear hr
 obtain ⟨r1, r2⟩ := r
 dsimp only at HC HD
 obtain ⟨⟨q0, q1, q2, q3, q4⟩, -⟩ := bo_cells HB.out.bx.hp
 obtain ⟨k0, k1, k2, k3, k4, k5⟩ := act_cells HK.out.hp
 refine wp_region_heldL (fun w' => w'.cell? ⟨bb, 1, none⟩ = some (.pointer (some ⟨P.p, 0, none⟩)) ∧ w'.cell? ⟨bb, 3, none⟩ = some (.pointer (some ⟨R.p, 0, none⟩)) ∧ w'.cell? ⟨b, 1, none⟩ = some (.int .i64 a.id)) (by kernel_rfl) ⟨q1, q3, k1⟩ (fun hS => ?_)
 clear q0 q1 q2 q3 q4 k0 k1 k2 k3 k4 k5
 refine tkH 0 (v := ?_) rfl ?_ ?_
 rotate_left
 ·(intro wq hSq; (try dsimp only at hSq); go_simp; try with_reducible rfl)
 try simp only [q0P, q0Q, q0R, q0S]
 refine tkH 1 (v := ?_) rfl ?_ ?_
 rotate_left
 ·(intro wq hSq; (try dsimp only at hSq); go_simp; try with_reducible rfl)
 try simp only [q0P, q0Q, q0R, q0S]
 refine tkH 2 (v := ?_) rfl ?_ ?_
 rotate_left
 ·(intro wq hSq; (try dsimp only at hSq); go_simp; try with_reducible rfl)
 try simp only [q0P, q0Q, q0R, q0S]
 refine tkH 3 (v := ?_) rfl ?_ ?_
 rotate_left
 ·(intro wq hSq; (try dsimp only at hSq); go_simp; try with_reducible rfl)
 try simp only [q0P, q0Q, q0R, q0S]
 refine tkH 4 (v := ?_) rfl ?_ ?_
 rotate_left
 ·(intro wq hSq; (try dsimp only at hSq); go_simp; try with_reducible rfl)
 try simp only [q0P, q0Q, q0R, q0S]
 refine tkH 5 (v := ?_) rfl ?_ ?_
 rotate_left
 ·(intro wq hSq; (try dsimp only at hSq); go_simp; try with_reducible rfl)
 try simp only [q0P, q0Q, q0R, q0S]
 refine tkH 7 (v := ?_) rfl ?_ ?_
 rotate_left
 ·(intro wq hSq; (try dsimp only at hSq); go_simp; try with_reducible rfl)
 try simp only [q0P, q0Q, q0R, q0S]
 refine tkH 8 (v := ?_) rfl ?_ ?_
 rotate_left
 ·(intro wq hSq; (try dsimp only at hSq); go_simp; try with_reducible rfl)
 try simp only [q0P, q0Q, q0R, q0S]
 refine tkH 9 (v := ?_) rfl ?_ ?_
 rotate_left
 ·(intro wq hSq; (try dsimp only at hSq); go_simp; try with_reducible rfl)
 try simp only [q0P, q0Q, q0R, q0S]
 refine tkH 10 (v := ?_) rfl ?_ ?_
 rotate_left
 ·(intro wq hSq; (try dsimp only at hSq); go_simp; try with_reducible rfl)
 try simp only [q0P, q0Q, q0R, q0S]
 refine tkH 11 (v := ?_) rfl ?_ ?_
 rotate_left
 ·(intro wq hSq; (try dsimp only at hSq); go_simp; try with_reducible rfl)
 try simp only [q0P, q0Q, q0R, q0S]
 refine tkH 12 (v := ?_) rfl ?_ ?_
 rotate_left
 ·(intro wq hSq; (try dsimp only at hSq); go_simp; try with_reducible rfl)
 try simp only [q0P, q0Q, q0R, q0S]
 have HB1 := Lib.hid HB.out.drew
 have HK1 := Lib.hid HK.out.drew
 clear HB HK
 refine wpAnyH_stepL 6 (by kernel_rfl) rfl (fun K hK => ?_)
 go_simp
 go_at_call 33
 refine (HC.out _ HB1.out.xa).mono ?_
 rintro e w2 ⟨rfl, v2, hq2, hs2⟩
 have HB2 := Lib.hid (HB1.out.left hq2 hs2)
 have HK2 := Lib.hid (HK1.out.left hs2)
 clear hq2 hs2 HB1 HK1
 obtain ⟨⟨q0, q1, q2, q3, q4⟩, -⟩ := bo_cells HB2.out.bx.hp
 obtain ⟨k0, k1, k2, k3, k4, k5⟩ := act_cells HK2.out.hp
 refine hK.out _ _ ⟨q1, q3, k1⟩ (fun hS2 => ?_)
 clear hK K hS
 clear q0 q1 q2 q3 q4 k0 k1 k2 k3 k4 k5
 try simp only [q0P, q0Q, q0R, q0S]
 refine wpAnyH_stepL 13 (by kernel_rfl) rfl (fun K hK => ?_)
 go_simp
 go_at_call 34
 refine (HD.out _ _ HB2.out.ya).mono ?_
 rintro e w3 ⟨rfl, u3, hq3, hs3⟩
 have HB3 := Lib.hid (HB2.out.right hq3 hs3)
 have HK3 := Lib.hid (HK2.out.right hs3)
 clear hq3 hs3 HB2 HK2
 obtain ⟨⟨q0, q1, q2, q3, q4⟩, -⟩ := bo_cells HB3.out.bx.hp
 obtain ⟨k0, k1, k2, k3, k4, k5⟩ := act_cells HK3.out.hp
 refine hK.out _ _ ⟨q1, q3, k1⟩ (fun hS3 => ?_)
 clear hK K hS2
 clear q0 q1 q2 q3 q4 k0 k1 k2 k3 k4 k5
 try simp only [q0P, q0Q, q0R, q0S]
 refine tkH 14 (v := ?_) rfl ?_ ?_
 rotate_left
 ·(intro wq hSq; (try dsimp only at hSq); go_simp; try with_reducible rfl)
 try simp only [q0P, q0Q, q0R, q0S]
 refine tkH 15 (v := ?_) rfl ?_ ?_
 rotate_left
 ·(intro wq hSq; (try dsimp only at hSq); go_simp; try with_reducible rfl)
 try simp only [q0P, q0Q, q0R, q0S]
 refine wpAnyH_end (by kernel_rfl) ?_
 go_wp2_with fail
 go_ret
 exact ⟨rfl, .inl ⟨_, _, _, _, _, HB3.out⟩⟩
theorem act_9 (B bb : Nat) (P : QP) (R : RQP) (v u : Value) (x : Qst) (a : JAct) (w W : World) (h : Bo B bb P R v u x x w W) (hT : ∀ X, Below B w X → TabAt X) (hwf : a.wf) (htx : a.text.length ≤ 100000000) (hm : a.what % 14 = 9) :
  Calls Tryz.prog 10 #[.pointer (some ⟨bb, 0, none⟩), a.val] W fun e w' => e = .returned (.bool true) ∧ After B bb w w' := by
 have hwl := hwf.w0
 have hmi : ((a.what : Int)).tmod 14 = 9 := by
  rw [Int.tmod_eq_emod_of_nonneg (by omega)]; omega
 have hmi2 : (a.what : Int) % 14 = 9 := by omega
 obtain ⟨b, hb⟩ : ∃ b, b = W.heap.size := ⟨_, rfl⟩
 obtain ⟨W1, hW1⟩ : ∃ X, X = W.alloc (actObj a) := ⟨_, rfl⟩
 have g1 : W1.heap[b]? = some (actObj a) := by rw [hW1, hb]; exact alloc_last _ _ rfl
 have hb1 : Below W.heap.size W W1 := by rw [hW1]; exact (Below.refl _ W).alloc (Nat.le_refl _) _
 have HK := Lib.hid (Keep.new h hb g1)
 have HB := Lib.hid (h.below hb1)
 have HBW := Lib.hid hb
 have HT := Lib.hid hT
 have HWF := Lib.hid hwf
 have HTX := Lib.hid htx
 have h0 := Lib.hid h
 obtain ⟨k0, -⟩ := act_cells g1
 unfold actObj at hW1
 have HW1 := Lib.hid hW1
 clear g1 hb1 hW1 hb h hm hT hwf htx
 unfold JAct.val
 go_enter Tryz.func10, Tryz.ntmps10
 go_upto_region 1 with (fail)
 rw [← HW1.out, ← HBW.out]
 clear HW1 HBW h0
 go_upto_region 23 with (fail)
 clear k0 hmi hmi2
 obtain ⟨r, hr⟩ : ∃ r, r = x.forget a.id := ⟨_, rfl⟩
 have HC := Lib.hid (fun X hX => (Forget_did P v x a.id X hX))
 have HD := Lib.hid (fun u X hX => (rfForget_did R u x a.id X hX))
 rw [← hr] at HC HD
 clear hr
 obtain ⟨r1, r2⟩ := r
 dsimp only at HC HD
 obtain ⟨⟨q0, q1, q2, q3, q4⟩, -⟩ := bo_cells HB.out.bx.hp
 obtain ⟨k0, k1, k2, k3, k4, k5⟩ := act_cells HK.out.hp
 refine wp_region_heldL (fun w' => w'.cell? ⟨bb, 1, none⟩ = some (.pointer (some ⟨P.p, 0, none⟩)) ∧ w'.cell? ⟨bb, 3, none⟩ = some (.pointer (some ⟨R.p, 0, none⟩)) ∧ w'.cell? ⟨b, 1, none⟩ = some (.int .i64 a.id)) (by kernel_rfl) ⟨q1, q3, k1⟩ (fun hS => ?_)
 clear q0 q1 q2 q3 q4 k0 k1 k2 k3 k4 k5
 refine tkH 0 (v := ?_) rfl ?_ ?_
 rotate_left
 ·(intro wq hSq; (try dsimp only at hSq); go_simp; try with_reducible rfl)
 try simp only [q0P, q0Q, q0R, q0S]
 refine tkH 1 (v := ?_) rfl ?_ ?_
 rotate_left
 ·(intro wq hSq; (try dsimp only at hSq); go_simp; try with_reducible rfl)
 try simp only [q0P, q0Q, q0R, q0S]
 refine tkH 2 (v := ?_) rfl ?_ ?_
 rotate_left
 ·(intro wq hSq; (try dsimp only at hSq); go_simp; try with_reducible rfl)
 try simp only [q0P, q0Q, q0R, q0S]
 refine tkH 3 (v := ?_) rfl ?_ ?_
 rotate_left
 ·(intro wq hSq; (try dsimp only at hSq); go_simp; try with_reducible rfl)
 try simp only [q0P, q0Q, q0R, q0S]
 refine tkH 4 (v := ?_) rfl ?_ ?_
 rotate_left
 ·(intro wq hSq; (try dsimp only at hSq); go_simp; try with_reducible rfl)
 try simp only [q0P, q0Q, q0R, q0S]
 refine tkH 5 (v := ?_) rfl ?_ ?_
 rotate_left
 ·(intro wq hSq; (try dsimp only at hSq); go_simp; try with_reducible rfl)
 try simp only [q0P, q0Q, q0R, q0S]
 refine tkH 7 (v := ?_) rfl ?_ ?_
 rotate_left
 ·(intro wq hSq; (try dsimp only at hSq); go_simp; try with_reducible rfl)
 try simp only [q0P, q0Q, q0R, q0S]
 refine tkH 8 (v := ?_) rfl ?_ ?_
 rotate_left
 ·(intro wq hSq; (try dsimp only at hSq); go_simp; try with_reducible rfl)
 try simp only [q0P, q0Q, q0R, q0S]
 refine tkH 9 (v := ?_) rfl ?_ ?_
 rotate_left
 ·(intro wq hSq; (try dsimp only at hSq); go_simp; try with_reducible rfl)
 try simp only [q0P, q0Q, q0R, q0S]
 refine tkH 10 (v := ?_) rfl ?_ ?_
 rotate_left
 ·(intro wq hSq; (try dsimp only at hSq); go_simp; try with_reducible rfl)
 try simp only [q0P, q0Q, q0R, q0S]
 refine tkH 11 (v := ?_) rfl ?_ ?_
 rotate_left
 ·(intro wq hSq; (try dsimp only at hSq); go_simp; try with_reducible rfl)
 try simp only [q0P, q0Q, q0R, q0S]
 refine tkH 12 (v := ?_) rfl ?_ ?_
 rotate_left
 ·(intro wq hSq; (try dsimp only at hSq); go_simp; try with_reducible rfl)
 try simp only [q0P, q0Q, q0R, q0S]
 have HB1 := Lib.hid HB.out.drew
 have HK1 := Lib.hid HK.out.drew
 clear HB HK
 refine wpAnyH_stepL 6 (by kernel_rfl) rfl (fun K hK => ?_)
 go_simp
 go_at_call 35
 refine (HC.out _ HB1.out.xa).mono ?_
 rintro e w2 ⟨rfl, v2, hq2, hs2⟩
 have HB2 := Lib.hid (HB1.out.left hq2 hs2)
 have HK2 := Lib.hid (HK1.out.left hs2)
 clear hq2 hs2 HB1 HK1
 obtain ⟨⟨q0, q1, q2, q3, q4⟩, -⟩ := bo_cells HB2.out.bx.hp
 obtain ⟨k0, k1, k2, k3, k4, k5⟩ := act_cells HK2.out.hp
 refine hK.out _ _ ⟨q1, q3, k1⟩ (fun hS2 => ?_)
 clear hK K hS
 clear q0 q1 q2 q3 q4 k0 k1 k2 k3 k4 k5
 try simp only [q0P, q0Q, q0R, q0S]
 refine wpAnyH_stepL 13 (by kernel_rfl) rfl (fun K hK => ?_)
 go_simp
 go_at_call 36
 refine (HD.out _ _ HB2.out.ya).mono ?_
 rintro e w3 ⟨rfl, u3, hq3, hs3⟩
 have HB3 := Lib.hid (HB2.out.right hq3 hs3)
 have HK3 := Lib.hid (HK2.out.right hs3)
 clear hq3 hs3 HB2 HK2
 obtain ⟨⟨q0, q1, q2, q3, q4⟩, -⟩ := bo_cells HB3.out.bx.hp
 obtain ⟨k0, k1, k2, k3, k4, k5⟩ := act_cells HK3.out.hp
 refine hK.out _ _ ⟨q1, q3, k1⟩ (fun hS3 => ?_)
 clear hK K hS2
 clear q0 q1 q2 q3 q4 k0 k1 k2 k3 k4 k5
 try simp only [q0P, q0Q, q0R, q0S]
 refine tkH 14 (v := ?_) rfl ?_ ?_
 rotate_left
 ·(intro wq hSq; (try dsimp only at hSq); go_simp; try with_reducible rfl)
 try simp only [q0P, q0Q, q0R, q0S]
 refine tkH 15 (v := ?_) rfl ?_ ?_
 rotate_left
 ·(intro wq hSq; (try dsimp only at hSq); go_simp; try with_reducible rfl)
 try simp only [q0P, q0Q, q0R, q0S]
 refine wpAnyH_end (by kernel_rfl) ?_
 go_wp2_with fail
 go_ret
 exact ⟨rfl, .inl ⟨_, _, _, _, _, HB3.out⟩⟩
theorem act_10 (B bb : Nat) (P : QP) (R : RQP) (v u : Value) (x : Qst) (a : JAct) (w W : World) (h : Bo B bb P R v u x x w W) (hT : ∀ X, Below B w X → TabAt X) (hwf : a.wf) (htx : a.text.length ≤ 100000000) (hm : a.what % 14 = 10) :
  Calls Tryz.prog 10 #[.pointer (some ⟨bb, 0, none⟩), a.val] W fun e w' => e = .returned (.bool true) ∧ After B bb w w' := by
 have hwl := hwf.w0
 have hmi : ((a.what : Int)).tmod 14 = 10 := by
  rw [Int.tmod_eq_emod_of_nonneg (by omega)]; omega
 have hmi2 : (a.what : Int) % 14 = 10 := by omega
 obtain ⟨b, hb⟩ : ∃ b, b = W.heap.size := ⟨_, rfl⟩
 obtain ⟨W1, hW1⟩ : ∃ X, X = W.alloc (actObj a) := ⟨_, rfl⟩
 have g1 : W1.heap[b]? = some (actObj a) := by rw [hW1, hb]; exact alloc_last _ _ rfl
 have hb1 : Below W.heap.size W W1 := by rw [hW1]; exact (Below.refl _ W).alloc (Nat.le_refl _) _
 have HK := Lib.hid (Keep.new h hb g1)
 have HB := Lib.hid (h.below hb1)
 have HBW := Lib.hid hb
 have HT := Lib.hid hT
 have HWF := Lib.hid hwf
 have HTX := Lib.hid htx
 have h0 := Lib.hid h
 obtain ⟨k0, -⟩ := act_cells g1
 unfold actObj at hW1
 have HW1 := Lib.hid hW1
 clear g1 hb1 hW1 hb h hm hT hwf htx
 unfold JAct.val
 go_enter Tryz.func10, Tryz.ntmps10
 go_upto_region 1 with (fail)
 rw [← HW1.out, ← HBW.out]
 clear HW1 HBW h0
 go_upto_region 25 with (fail)
 clear k0 hmi hmi2
 obtain ⟨r, hr⟩ : ∃ r, r = x.compact := ⟨_, rfl⟩
 have HC := Lib.hid (fun X hX => (Compact_did P v x X hX))
 have HD := Lib.hid (fun u X hX => (rfCompact_did R u x X hX))
 rw [← hr] at HC HD
 clear hr
 obtain ⟨r1, r2⟩ := r
 dsimp only at HC HD
 obtain ⟨⟨q0, q1, q2, q3, q4⟩, -⟩ := bo_cells HB.out.bx.hp
 obtain ⟨k0, k1, k2, k3, k4, k5⟩ := act_cells HK.out.hp
 refine wp_region_heldL (fun w' => w'.cell? ⟨bb, 1, none⟩ = some (.pointer (some ⟨P.p, 0, none⟩)) ∧ w'.cell? ⟨bb, 3, none⟩ = some (.pointer (some ⟨R.p, 0, none⟩))) (by kernel_rfl) ⟨q1, q3⟩ (fun hS => ?_)
 clear q0 q1 q2 q3 q4 k0 k1 k2 k3 k4 k5
 refine tkH 0 (v := ?_) rfl ?_ ?_
 rotate_left
 ·(intro wq hSq; (try dsimp only at hSq); go_simp; try with_reducible rfl)
 try simp only [q0P, q0Q, q0R, q0S]
 refine tkH 1 (v := ?_) rfl ?_ ?_
 rotate_left
 ·(intro wq hSq; (try dsimp only at hSq); go_simp; try with_reducible rfl)
 try simp only [q0P, q0Q, q0R, q0S]
 refine tkH 2 (v := ?_) rfl ?_ ?_
 rotate_left
 ·(intro wq hSq; (try dsimp only at hSq); go_simp; try with_reducible rfl)
 try simp only [q0P, q0Q, q0R, q0S]
 refine tkH 3 (v := ?_) rfl ?_ ?_
 rotate_left
 ·(intro wq hSq; (try dsimp only at hSq); go_simp; try with_reducible rfl)
 try simp only [q0P, q0Q, q0R, q0S]
 refine tkH 5 (v := ?_) rfl ?_ ?_
 rotate_left
 ·(intro wq hSq; (try dsimp only at hSq); go_simp; try with_reducible rfl)
 try simp only [q0P, q0Q, q0R, q0S]
 refine tkH 6 (v := ?_) rfl ?_ ?_
 rotate_left
 ·(intro wq hSq; (try dsimp only at hSq); go_simp; try with_reducible rfl)
 try simp only [q0P, q0Q, q0R, q0S]
 refine tkH 7 (v := ?_) rfl ?_ ?_
 rotate_left
 ·(intro wq hSq; (try dsimp only at hSq); go_simp; try with_reducible rfl)
 try simp only [q0P, q0Q, q0R, q0S]
 refine tkH 8 (v := ?_) rfl ?_ ?_
 rotate_left
 ·(intro wq hSq; (try dsimp only at hSq); go_simp; try with_reducible rfl)
 try simp only [q0P, q0Q, q0R, q0S]
 have HB1 := Lib.hid HB.out.drew
 have HK1 := Lib.hid HK.out.drew
 clear HB HK
 refine wpAnyH_stepL 4 (by kernel_rfl) rfl (fun K hK => ?_)
 go_simp
 go_at_call 37
 refine (HC.out _ HB1.out.xa).mono ?_
 rintro e w2 ⟨rfl, v2, hq2, hs2⟩
 have HB2 := Lib.hid (HB1.out.left hq2 hs2)
 have HK2 := Lib.hid (HK1.out.left hs2)
 clear hq2 hs2 HB1 HK1
 obtain ⟨⟨q0, q1, q2, q3, q4⟩, -⟩ := bo_cells HB2.out.bx.hp
 obtain ⟨k0, k1, k2, k3, k4, k5⟩ := act_cells HK2.out.hp
 refine hK.out _ _ ⟨q1, q3⟩ (fun hS2 => ?_)
 clear hK K hS
 clear q0 q1 q2 q3 q4 k0 k1 k2 k3 k4 k5
 try simp only [q0P, q0Q, q0R, q0S]
 refine wpAnyH_stepL 9 (by kernel_rfl) rfl (fun K hK => ?_)
 go_simp
 go_at_call 38
 refine (HD.out _ _ HB2.out.ya).mono ?_
 rintro e w3 ⟨rfl, u3, hq3, hs3⟩
 have HB3 := Lib.hid (HB2.out.right hq3 hs3)
 have HK3 := Lib.hid (HK2.out.right hs3)
 clear hq3 hs3 HB2 HK2
 obtain ⟨⟨q0, q1, q2, q3, q4⟩, -⟩ := bo_cells HB3.out.bx.hp
 obtain ⟨k0, k1, k2, k3, k4, k5⟩ := act_cells HK3.out.hp
 refine hK.out _ _ ⟨q1, q3⟩ (fun hS3 => ?_)
 clear hK K hS2
 clear q0 q1 q2 q3 q4 k0 k1 k2 k3 k4 k5
 try simp only [q0P, q0Q, q0R, q0S]
 refine tkH 10 (v := ?_) rfl ?_ ?_
 rotate_left
 ·(intro wq hSq; (try dsimp only at hSq); go_simp; try with_reducible rfl)
 try simp only [q0P, q0Q, q0R, q0S]
 refine tkH 11 (v := ?_) rfl ?_ ?_
 rotate_left
 ·(intro wq hSq; (try dsimp only at hSq); go_simp; try with_reducible rfl)
 try simp only [q0P, q0Q, q0R, q0S]
 refine wpAnyH_end (by kernel_rfl) ?_
 go_wp2_with fail
 go_ret
 exact ⟨rfl, .inl ⟨_, _, _, _, _, HB3.out⟩⟩
end
/- Laws of the jobs: both queues do an act: Submit, Take, Fuse, Append. Printed by gen_pj4.py. -/
section
open Go.RowKit Go.Shelf
theorem job_eql (a b : Jb) (W : World) : (binOp .eql 48 a.val b.val).run Tryz.prog W = .ok (.bool (decide (a = b))) W := by
 have h := job_equalIn a b W
 unfold Jb.val at h ⊢
 rw [run_eql_struct, h]; rfl
theorem fused_good {d : Dk} (hg : d.good) (n : Int) (hn : n ≤ 9223372036854775807) : (d.fused n).2.good := by
 unfold Dk.fused
 split
 ·exact hg
 ·exact good_fuse hg n (by omega) hn d.failed
theorem act_0 (B bb : Nat) (P : QP) (R : RQP) (v u : Value) (x : Qst) (a : JAct) (w W : World) (h : Bo B bb P R v u x x w W) (hT : ∀ X, Below B w X → TabAt X) (hwf : a.wf) (htx : a.text.length ≤ 100000000) (hm : a.what % 14 = 0) :
  Calls Tryz.prog 10 #[.pointer (some ⟨bb, 0, none⟩), a.val] W fun e w' => e = .returned (.bool true) ∧ After B bb w w' := by
 have hwl := hwf.w0
 have hmi : ((a.what : Int)).tmod 14 = 0 := by
  rw [Int.tmod_eq_emod_of_nonneg (by omega)]; omega
 have hmi2 : (a.what : Int) % 14 = 0 := by omega
 obtain ⟨b, hb⟩ : ∃ b, b = W.heap.size := ⟨_, rfl⟩
 obtain ⟨W1, hW1⟩ : ∃ X, X = W.alloc (actObj a) := ⟨_, rfl⟩
 have g1 : W1.heap[b]? = some (actObj a) := by rw [hW1, hb]; exact alloc_last _ _ rfl
 have hb1 : Below W.heap.size W W1 := by rw [hW1]; exact (Below.refl _ W).alloc (Nat.le_refl _) _
 have HK := Lib.hid (Keep.new h hb g1)
 have HB := Lib.hid (h.below hb1)
 have HBW := Lib.hid hb
 have HT := Lib.hid hT
 have HWF := Lib.hid hwf
 have HTX := Lib.hid htx
 have h0 := Lib.hid h
 obtain ⟨k0, -⟩ := act_cells g1
 unfold actObj at hW1
 have HW1 := Lib.hid hW1
 clear g1 hb1 hW1 hb h hm hT hwf htx
 unfold JAct.val
 go_enter Tryz.func10, Tryz.ntmps10
 go_upto_region 1 with (fail)
 rw [← HW1.out, ← HBW.out]
 clear HW1 HBW h0
 go_upto_region 4 with (fail)
 clear k0 hmi hmi2
 obtain ⟨r, hr⟩ : ∃ r, r = x.submit a.client a.token a.prio a.text := ⟨_, rfl⟩
 have HC := Lib.hid (fun X hX => (Submit_did P v x a.client a.token a.prio a.text X hX))
 have HD := Lib.hid (fun u X hX => (rfSubmit_did R u x a.client a.token a.prio a.text X hX))
 rw [← hr] at HC HD
 clear hr
 obtain ⟨⟨r1, r2⟩, r3⟩ := r
 dsimp only at HC HD
 unfold strV at HC HD
 obtain ⟨⟨q0, q1, q2, q3, q4⟩, -⟩ := bo_cells HB.out.bx.hp
 obtain ⟨k0, k1, k2, k3, k4, k5⟩ := act_cells HK.out.hp
 refine wp_region_heldL (fun w' => w'.cell? ⟨bb, 1, none⟩ = some (.pointer (some ⟨P.p, 0, none⟩)) ∧ w'.cell? ⟨b, 3, none⟩ = some (.string (bytesOf a.client)) ∧ w'.cell? ⟨b, 4, none⟩ = some (.string (bytesOf a.token)) ∧ w'.cell? ⟨b, 2, none⟩ = some (.int .i64 a.prio) ∧ w'.cell? ⟨b, 5, none⟩ = some (.string (bytesOf a.text))) (by kernel_rfl) ⟨q1, k3, k4, k2, k5⟩ (fun hS => ?_)
 clear q0 q1 q2 q3 q4 k0 k1 k2 k3 k4 k5
 refine tkH 0 (v := ?_) rfl ?_ ?_
 rotate_left
 ·(intro wq hSq; (try dsimp only at hSq); go_simp; try with_reducible rfl)
 try simp only [q0P, q0Q, q0R, q0S]
 refine tkH 1 (v := ?_) rfl ?_ ?_
 rotate_left
 ·(intro wq hSq; (try dsimp only at hSq); go_simp; try with_reducible rfl)
 try simp only [q0P, q0Q, q0R, q0S]
 refine tkH 2 (v := ?_) rfl ?_ ?_
 rotate_left
 ·(intro wq hSq; (try dsimp only at hSq); go_simp; try with_reducible rfl)
 try simp only [q0P, q0Q, q0R, q0S]
 refine tkH 3 (v := ?_) rfl ?_ ?_
 rotate_left
 ·(intro wq hSq; (try dsimp only at hSq); go_simp; try with_reducible rfl)
 try simp only [q0P, q0Q, q0R, q0S]
 refine tkH 4 (v := ?_) rfl ?_ ?_
 rotate_left
 ·(intro wq hSq; (try dsimp only at hSq); go_simp; try with_reducible rfl)
 try simp only [q0P, q0Q, q0R, q0S]
 refine tkH 5 (v := ?_) rfl ?_ ?_
 rotate_left
 ·(intro wq hSq; (try dsimp only at hSq); go_simp; try with_reducible rfl)
 try simp only [q0P, q0Q, q0R, q0S]
 refine tkH 6 (v := ?_) rfl ?_ ?_
 rotate_left
 ·(intro wq hSq; (try dsimp only at hSq); go_simp; try with_reducible rfl)
 try simp only [q0P, q0Q, q0R, q0S]
 refine tkH 7 (v := ?_) rfl ?_ ?_
 rotate_left
 ·(intro wq hSq; (try dsimp only at hSq); go_simp; try with_reducible rfl)
 try simp only [q0P, q0Q, q0R, q0S]
 refine tkH 8 (v := ?_) rfl ?_ ?_
 rotate_left
 ·(intro wq hSq; (try dsimp only at hSq); go_simp; try with_reducible rfl)
 try simp only [q0P, q0Q, q0R, q0S]
 refine tkH 9 (v := ?_) rfl ?_ ?_
 rotate_left
 ·(intro wq hSq; (try dsimp only at hSq); go_simp; try with_reducible rfl)
 try simp only [q0P, q0Q, q0R, q0S]
 refine tkH 10 (v := ?_) rfl ?_ ?_
 rotate_left
 ·(intro wq hSq; (try dsimp only at hSq); go_simp; try with_reducible rfl)
 try simp only [q0P, q0Q, q0R, q0S]
 refine tkH 11 (v := ?_) rfl ?_ ?_
 rotate_left
 ·(intro wq hSq; (try dsimp only at hSq); go_simp; try with_reducible rfl)
 try simp only [q0P, q0Q, q0R, q0S]
 have HB1 := Lib.hid HB.out.drew
 have HK1 := Lib.hid HK.out.drew
 clear HB HK
 refine wpAnyH_stepL 12 (by kernel_rfl) rfl (fun K hK => ?_)
 go_simp
 go_at_call 13
 refine (HC.out _ HB1.out.xa).mono ?_
 rintro e w2 ⟨rfl, v2, hq2, hs2⟩
 have HB2 := Lib.hid (HB1.out.left hq2 hs2)
 have HK2 := Lib.hid (HK1.out.left hs2)
 clear hq2 hs2 HB1 HK1
 obtain ⟨⟨q0, q1, q2, q3, q4⟩, -⟩ := bo_cells HB2.out.bx.hp
 obtain ⟨k0, k1, k2, k3, k4, k5⟩ := act_cells HK2.out.hp
 refine hK.out _ _ ⟨q1, k3, k4, k2, k5⟩ (fun hS2 => ?_)
 clear hK K hS
 clear q0 q1 q2 q3 q4 k0 k1 k2 k3 k4 k5
 try simp only [q0P, q0Q, q0R, q0S]
 refine tkH 13 (v := ?_) rfl ?_ ?_
 rotate_left
 ·(intro wq hSq; (try dsimp only at hSq); go_simp; try with_reducible rfl)
 try simp only [q0P, q0Q, q0R, q0S]
 refine tkH 14 (v := ?_) rfl ?_ ?_
 rotate_left
 ·(intro wq hSq; (try dsimp only at hSq); go_simp; try with_reducible rfl)
 try simp only [q0P, q0Q, q0R, q0S]
 refine tkH 15 (v := ?_) rfl ?_ ?_
 rotate_left
 ·(intro wq hSq; (try dsimp only at hSq); go_simp; try with_reducible rfl)
 try simp only [q0P, q0Q, q0R, q0S]
 refine tkH 16 (v := ?_) rfl ?_ ?_
 rotate_left
 ·(intro wq hSq; (try dsimp only at hSq); go_simp; try with_reducible rfl)
 try simp only [q0P, q0Q, q0R, q0S]
 refine tkH 17 (v := ?_) rfl ?_ ?_
 rotate_left
 ·(intro wq hSq; (try dsimp only at hSq); go_simp; try with_reducible rfl)
 try simp only [q0P, q0Q, q0R, q0S]
 refine wpAnyH_end (by kernel_rfl) ?_
 clear hS2
 go_upto_region 5 with (fail)
 obtain ⟨⟨q0, q1, q2, q3, q4⟩, -⟩ := bo_cells HB2.out.bx.hp
 obtain ⟨k0, k1, k2, k3, k4, k5⟩ := act_cells HK2.out.hp
 refine wp_region_heldL (fun w' => w'.cell? ⟨bb, 3, none⟩ = some (.pointer (some ⟨R.p, 0, none⟩)) ∧ w'.cell? ⟨b, 3, none⟩ = some (.string (bytesOf a.client)) ∧ w'.cell? ⟨b, 4, none⟩ = some (.string (bytesOf a.token)) ∧ w'.cell? ⟨b, 2, none⟩ = some (.int .i64 a.prio) ∧ w'.cell? ⟨b, 5, none⟩ = some (.string (bytesOf a.text))) (by kernel_rfl) ⟨q3, k3, k4, k2, k5⟩ (fun hS => ?_)
 clear q0 q1 q2 q3 q4 k0 k1 k2 k3 k4 k5
 refine tkH 0 (v := ?_) rfl ?_ ?_
 rotate_left
 ·(intro wq hSq; (try dsimp only at hSq); go_simp; try with_reducible rfl)
 try simp only [q0P, q0Q, q0R, q0S]
 refine tkH 1 (v := ?_) rfl ?_ ?_
 rotate_left
 ·(intro wq hSq; (try dsimp only at hSq); go_simp; try with_reducible rfl)
 try simp only [q0P, q0Q, q0R, q0S]
 refine tkH 2 (v := ?_) rfl ?_ ?_
 rotate_left
 ·(intro wq hSq; (try dsimp only at hSq); go_simp; try with_reducible rfl)
 try simp only [q0P, q0Q, q0R, q0S]
 refine tkH 3 (v := ?_) rfl ?_ ?_
 rotate_left
 ·(intro wq hSq; (try dsimp only at hSq); go_simp; try with_reducible rfl)
 try simp only [q0P, q0Q, q0R, q0S]
 refine tkH 4 (v := ?_) rfl ?_ ?_
 rotate_left
 ·(intro wq hSq; (try dsimp only at hSq); go_simp; try with_reducible rfl)
 try simp only [q0P, q0Q, q0R, q0S]
 refine tkH 5 (v := ?_) rfl ?_ ?_
 rotate_left
 ·(intro wq hSq; (try dsimp only at hSq); go_simp; try with_reducible rfl)
 try simp only [q0P, q0Q, q0R, q0S]
 refine tkH 6 (v := ?_) rfl ?_ ?_
 rotate_left
 ·(intro wq hSq; (try dsimp only at hSq); go_simp; try with_reducible rfl)
 try simp only [q0P, q0Q, q0R, q0S]
 refine tkH 7 (v := ?_) rfl ?_ ?_
 rotate_left
 ·(intro wq hSq; (try dsimp only at hSq); go_simp; try with_reducible rfl)
 try simp only [q0P, q0Q, q0R, q0S]
 refine tkH 8 (v := ?_) rfl ?_ ?_
 rotate_left
 ·(intro wq hSq; (try dsimp only at hSq); go_simp; try with_reducible rfl)
 try simp only [q0P, q0Q, q0R, q0S]
 refine tkH 9 (v := ?_) rfl ?_ ?_
 rotate_left
 ·(intro wq hSq; (try dsimp only at hSq); go_simp; try with_reducible rfl)
 try simp only [q0P, q0Q, q0R, q0S]
 refine tkH 10 (v := ?_) rfl ?_ ?_
 rotate_left
 ·(intro wq hSq; (try dsimp only at hSq); go_simp; try with_reducible rfl)
 try simp only [q0P, q0Q, q0R, q0S]
 refine tkH 11 (v := ?_) rfl ?_ ?_
 rotate_left
 ·(intro wq hSq; (try dsimp only at hSq); go_simp; try with_reducible rfl)
 try simp only [q0P, q0Q, q0R, q0S]
 have HB3 := Lib.hid HB2.out.drew
 have HK3 := Lib.hid HK2.out.drew
 clear HB2 HK2
 refine wpAnyH_stepL 12 (by kernel_rfl) rfl (fun K hK => ?_)
 go_simp
 go_at_call 25
 refine (HD.out _ _ HB3.out.ya).mono ?_
 rintro e w3 ⟨rfl, u3, hq3, hs3⟩
 have HB4 := Lib.hid (HB3.out.right hq3 hs3)
 have HK4 := Lib.hid (HK3.out.right hs3)
 clear hq3 hs3 HB3 HK3
 obtain ⟨⟨q0, q1, q2, q3, q4⟩, -⟩ := bo_cells HB4.out.bx.hp
 obtain ⟨k0, k1, k2, k3, k4, k5⟩ := act_cells HK4.out.hp
 refine hK.out _ _ ⟨q3, k3, k4, k2, k5⟩ (fun hS2 => ?_)
 clear hK K hS
 clear q0 q1 q2 q3 q4 k0 k1 k2 k3 k4 k5
 try simp only [q0P, q0Q, q0R, q0S]
 refine tkH 13 (v := ?_) rfl ?_ ?_
 rotate_left
 ·(intro wq hSq; (try dsimp only at hSq); go_simp; try with_reducible rfl)
 try simp only [q0P, q0Q, q0R, q0S]
 refine tkH 14 (v := ?_) rfl ?_ ?_
 rotate_left
 ·(intro wq hSq; (try dsimp only at hSq); go_simp; try with_reducible rfl)
 try simp only [q0P, q0Q, q0R, q0S]
 refine tkH 15 (v := ?_) rfl ?_ ?_
 rotate_left
 ·(intro wq hSq; (try dsimp only at hSq); go_simp; try with_reducible rfl)
 try simp only [q0P, q0Q, q0R, q0S]
 refine tkH 16 (v := ?_) rfl ?_ ?_
 rotate_left
 ·(intro wq hSq; (try dsimp only at hSq); go_simp; try with_reducible rfl)
 try simp only [q0P, q0Q, q0R, q0S]
 refine tkH 17 (v := ?_) rfl ?_ ?_
 rotate_left
 ·(intro wq hSq; (try dsimp only at hSq); go_simp; try with_reducible rfl)
 try simp only [q0P, q0Q, q0R, q0S]
 refine wpAnyH_end (by kernel_rfl) ?_
 clear hS2
 go_wp2_with fail
 go_ret
 exact ⟨rfl, .inl ⟨_, _, _, _, _, HB4.out⟩⟩
theorem act_1 (B bb : Nat) (P : QP) (R : RQP) (v u : Value) (x : Qst) (a : JAct) (w W : World) (h : Bo B bb P R v u x x w W) (hT : ∀ X, Below B w X → TabAt X) (hwf : a.wf) (htx : a.text.length ≤ 100000000) (hm : a.what % 14 = 1) :
  Calls Tryz.prog 10 #[.pointer (some ⟨bb, 0, none⟩), a.val] W fun e w' => e = .returned (.bool true) ∧ After B bb w w' := by
 have hwl := hwf.w0
 have hmi : ((a.what : Int)).tmod 14 = 1 := by
  rw [Int.tmod_eq_emod_of_nonneg (by omega)]; omega
 have hmi2 : (a.what : Int) % 14 = 1 := by omega
 obtain ⟨b, hb⟩ : ∃ b, b = W.heap.size := ⟨_, rfl⟩
 obtain ⟨W1, hW1⟩ : ∃ X, X = W.alloc (actObj a) := ⟨_, rfl⟩
 have g1 : W1.heap[b]? = some (actObj a) := by rw [hW1, hb]; exact alloc_last _ _ rfl
 have hb1 : Below W.heap.size W W1 := by rw [hW1]; exact (Below.refl _ W).alloc (Nat.le_refl _) _
 have HK := Lib.hid (Keep.new h hb g1)
 have HB := Lib.hid (h.below hb1)
 have HBW := Lib.hid hb
 have HT := Lib.hid hT
 have HWF := Lib.hid hwf
 have HTX := Lib.hid htx
 have h0 := Lib.hid h
 obtain ⟨k0, -⟩ := act_cells g1
 unfold actObj at hW1
 have HW1 := Lib.hid hW1
 clear g1 hb1 hW1 hb h hm hT hwf htx
 unfold JAct.val
 go_enter Tryz.func10, Tryz.ntmps10
 go_upto_region 1 with (fail)
 rw [← HW1.out, ← HBW.out]
 clear HW1 HBW h0
 go_upto_region 4 with (fail)
 clear k0 hmi hmi2
 obtain ⟨r, hr⟩ : ∃ r, r = x.submit a.client a.token a.prio a.text := ⟨_, rfl⟩
 have HC := Lib.hid (fun X hX => (Submit_did P v x a.client a.token a.prio a.text X hX))
 have HD := Lib.hid (fun u X hX => (rfSubmit_did R u x a.client a.token a.prio a.text X hX))
 rw [← hr] at HC HD
 clear hr
 obtain ⟨⟨r1, r2⟩, r3⟩ := r
 dsimp only at HC HD
 unfold strV at HC HD
 obtain ⟨⟨q0, q1, q2, q3, q4⟩, -⟩ := bo_cells HB.out.bx.hp
 obtain ⟨k0, k1, k2, k3, k4, k5⟩ := act_cells HK.out.hp
 refine wp_region_heldL (fun w' => w'.cell? ⟨bb, 1, none⟩ = some (.pointer (some ⟨P.p, 0, none⟩)) ∧ w'.cell? ⟨b, 3, none⟩ = some (.string (bytesOf a.client)) ∧ w'.cell? ⟨b, 4, none⟩ = some (.string (bytesOf a.token)) ∧ w'.cell? ⟨b, 2, none⟩ = some (.int .i64 a.prio) ∧ w'.cell? ⟨b, 5, none⟩ = some (.string (bytesOf a.text))) (by kernel_rfl) ⟨q1, k3, k4, k2, k5⟩ (fun hS => ?_)
 clear q0 q1 q2 q3 q4 k0 k1 k2 k3 k4 k5
 refine tkH 0 (v := ?_) rfl ?_ ?_
 rotate_left
 ·(intro wq hSq; (try dsimp only at hSq); go_simp; try with_reducible rfl)
 try simp only [q0P, q0Q, q0R, q0S]
 refine tkH 1 (v := ?_) rfl ?_ ?_
 rotate_left
 ·(intro wq hSq; (try dsimp only at hSq); go_simp; try with_reducible rfl)
 try simp only [q0P, q0Q, q0R, q0S]
 refine tkH 2 (v := ?_) rfl ?_ ?_
 rotate_left
 ·(intro wq hSq; (try dsimp only at hSq); go_simp; try with_reducible rfl)
 try simp only [q0P, q0Q, q0R, q0S]
 refine tkH 3 (v := ?_) rfl ?_ ?_
 rotate_left
 ·(intro wq hSq; (try dsimp only at hSq); go_simp; try with_reducible rfl)
 try simp only [q0P, q0Q, q0R, q0S]
 refine tkH 4 (v := ?_) rfl ?_ ?_
 rotate_left
 ·(intro wq hSq; (try dsimp only at hSq); go_simp; try with_reducible rfl)
 try simp only [q0P, q0Q, q0R, q0S]
 refine tkH 5 (v := ?_) rfl ?_ ?_
 rotate_left
 ·(intro wq hSq; (try dsimp only at hSq); go_simp; try with_reducible rfl)
 try simp only [q0P, q0Q, q0R, q0S]
 refine tkH 6 (v := ?_) rfl ?_ ?_
 rotate_left
 ·(intro wq hSq; (try dsimp only at hSq); go_simp; try with_reducible rfl)
 try simp only [q0P, q0Q, q0R, q0S]
 refine tkH 7 (v := ?_) rfl ?_ ?_
 rotate_left
 ·(intro wq hSq; (try dsimp only at hSq); go_simp; try with_reducible rfl)
 try simp only [q0P, q0Q, q0R, q0S]
 refine tkH 8 (v := ?_) rfl ?_ ?_
 rotate_left
 ·(intro wq hSq; (try dsimp only at hSq); go_simp; try with_reducible rfl)
 try simp only [q0P, q0Q, q0R, q0S]
 refine tkH 9 (v := ?_) rfl ?_ ?_
 rotate_left
 ·(intro wq hSq; (try dsimp only at hSq); go_simp; try with_reducible rfl)
 try simp only [q0P, q0Q, q0R, q0S]
 refine tkH 10 (v := ?_) rfl ?_ ?_
 rotate_left
 ·(intro wq hSq; (try dsimp only at hSq); go_simp; try with_reducible rfl)
 try simp only [q0P, q0Q, q0R, q0S]
 refine tkH 11 (v := ?_) rfl ?_ ?_
 rotate_left
 ·(intro wq hSq; (try dsimp only at hSq); go_simp; try with_reducible rfl)
 try simp only [q0P, q0Q, q0R, q0S]
 have HB1 := Lib.hid HB.out.drew
 have HK1 := Lib.hid HK.out.drew
 clear HB HK
 refine wpAnyH_stepL 12 (by kernel_rfl) rfl (fun K hK => ?_)
 go_simp
 go_at_call 13
 refine (HC.out _ HB1.out.xa).mono ?_
 rintro e w2 ⟨rfl, v2, hq2, hs2⟩
 have HB2 := Lib.hid (HB1.out.left hq2 hs2)
 have HK2 := Lib.hid (HK1.out.left hs2)
 clear hq2 hs2 HB1 HK1
 obtain ⟨⟨q0, q1, q2, q3, q4⟩, -⟩ := bo_cells HB2.out.bx.hp
 obtain ⟨k0, k1, k2, k3, k4, k5⟩ := act_cells HK2.out.hp
 refine hK.out _ _ ⟨q1, k3, k4, k2, k5⟩ (fun hS2 => ?_)
 clear hK K hS
 clear q0 q1 q2 q3 q4 k0 k1 k2 k3 k4 k5
 try simp only [q0P, q0Q, q0R, q0S]
 refine tkH 13 (v := ?_) rfl ?_ ?_
 rotate_left
 ·(intro wq hSq; (try dsimp only at hSq); go_simp; try with_reducible rfl)
 try simp only [q0P, q0Q, q0R, q0S]
 refine tkH 14 (v := ?_) rfl ?_ ?_
 rotate_left
 ·(intro wq hSq; (try dsimp only at hSq); go_simp; try with_reducible rfl)
 try simp only [q0P, q0Q, q0R, q0S]
 refine tkH 15 (v := ?_) rfl ?_ ?_
 rotate_left
 ·(intro wq hSq; (try dsimp only at hSq); go_simp; try with_reducible rfl)
 try simp only [q0P, q0Q, q0R, q0S]
 refine tkH 16 (v := ?_) rfl ?_ ?_
 rotate_left
 ·(intro wq hSq; (try dsimp only at hSq); go_simp; try with_reducible rfl)
 try simp only [q0P, q0Q, q0R, q0S]
 refine tkH 17 (v := ?_) rfl ?_ ?_
 rotate_left
 ·(intro wq hSq; (try dsimp only at hSq); go_simp; try with_reducible rfl)
 try simp only [q0P, q0Q, q0R, q0S]
 refine wpAnyH_end (by kernel_rfl) ?_
 clear hS2
 go_upto_region 5 with (fail)
 obtain ⟨⟨q0, q1, q2, q3, q4⟩, -⟩ := bo_cells HB2.out.bx.hp
 obtain ⟨k0, k1, k2, k3, k4, k5⟩ := act_cells HK2.out.hp
 refine wp_region_heldL (fun w' => w'.cell? ⟨bb, 3, none⟩ = some (.pointer (some ⟨R.p, 0, none⟩)) ∧ w'.cell? ⟨b, 3, none⟩ = some (.string (bytesOf a.client)) ∧ w'.cell? ⟨b, 4, none⟩ = some (.string (bytesOf a.token)) ∧ w'.cell? ⟨b, 2, none⟩ = some (.int .i64 a.prio) ∧ w'.cell? ⟨b, 5, none⟩ = some (.string (bytesOf a.text))) (by kernel_rfl) ⟨q3, k3, k4, k2, k5⟩ (fun hS => ?_)
 clear q0 q1 q2 q3 q4 k0 k1 k2 k3 k4 k5
 refine tkH 0 (v := ?_) rfl ?_ ?_
 rotate_left
 ·(intro wq hSq; (try dsimp only at hSq); go_simp; try with_reducible rfl)
 try simp only [q0P, q0Q, q0R, q0S]
 refine tkH 1 (v := ?_) rfl ?_ ?_
 rotate_left
 ·(intro wq hSq; (try dsimp only at hSq); go_simp; try with_reducible rfl)
 try simp only [q0P, q0Q, q0R, q0S]
 refine tkH 2 (v := ?_) rfl ?_ ?_
 rotate_left
 ·(intro wq hSq; (try dsimp only at hSq); go_simp; try with_reducible rfl)
 try simp only [q0P, q0Q, q0R, q0S]
 refine tkH 3 (v := ?_) rfl ?_ ?_
 rotate_left
 ·(intro wq hSq; (try dsimp only at hSq); go_simp; try with_reducible rfl)
 try simp only [q0P, q0Q, q0R, q0S]
 refine tkH 4 (v := ?_) rfl ?_ ?_
 rotate_left
 ·(intro wq hSq; (try dsimp only at hSq); go_simp; try with_reducible rfl)
 try simp only [q0P, q0Q, q0R, q0S]
 refine tkH 5 (v := ?_) rfl ?_ ?_
 rotate_left
 ·(intro wq hSq; (try dsimp only at hSq); go_simp; try with_reducible rfl)
 try simp only [q0P, q0Q, q0R, q0S]
 refine tkH 6 (v := ?_) rfl ?_ ?_
 rotate_left
 ·(intro wq hSq; (try dsimp only at hSq); go_simp; try with_reducible rfl)
 try simp only [q0P, q0Q, q0R, q0S]
 refine tkH 7 (v := ?_) rfl ?_ ?_
 rotate_left
 ·(intro wq hSq; (try dsimp only at hSq); go_simp; try with_reducible rfl)
 try simp only [q0P, q0Q, q0R, q0S]
 refine tkH 8 (v := ?_) rfl ?_ ?_
 rotate_left
 ·(intro wq hSq; (try dsimp only at hSq); go_simp; try with_reducible rfl)
 try simp only [q0P, q0Q, q0R, q0S]
 refine tkH 9 (v := ?_) rfl ?_ ?_
 rotate_left
 ·(intro wq hSq; (try dsimp only at hSq); go_simp; try with_reducible rfl)
 try simp only [q0P, q0Q, q0R, q0S]
 refine tkH 10 (v := ?_) rfl ?_ ?_
 rotate_left
 ·(intro wq hSq; (try dsimp only at hSq); go_simp; try with_reducible rfl)
 try simp only [q0P, q0Q, q0R, q0S]
 refine tkH 11 (v := ?_) rfl ?_ ?_
 rotate_left
 ·(intro wq hSq; (try dsimp only at hSq); go_simp; try with_reducible rfl)
 try simp only [q0P, q0Q, q0R, q0S]
 have HB3 := Lib.hid HB2.out.drew
 have HK3 := Lib.hid HK2.out.drew
 clear HB2 HK2
 refine wpAnyH_stepL 12 (by kernel_rfl) rfl (fun K hK => ?_)
 go_simp
 go_at_call 25
 refine (HD.out _ _ HB3.out.ya).mono ?_
 rintro e w3 ⟨rfl, u3, hq3, hs3⟩
 have HB4 := Lib.hid (HB3.out.right hq3 hs3)
 have HK4 := Lib.hid (HK3.out.right hs3)
 clear hq3 hs3 HB3 HK3
 obtain ⟨⟨q0, q1, q2, q3, q4⟩, -⟩ := bo_cells HB4.out.bx.hp
 obtain ⟨k0, k1, k2, k3, k4, k5⟩ := act_cells HK4.out.hp
 refine hK.out _ _ ⟨q3, k3, k4, k2, k5⟩ (fun hS2 => ?_)
 clear hK K hS
 clear q0 q1 q2 q3 q4 k0 k1 k2 k3 k4 k5
 try simp only [q0P, q0Q, q0R, q0S]
 refine tkH 13 (v := ?_) rfl ?_ ?_
 rotate_left
 ·(intro wq hSq; (try dsimp only at hSq); go_simp; try with_reducible rfl)
 try simp only [q0P, q0Q, q0R, q0S]
 refine tkH 14 (v := ?_) rfl ?_ ?_
 rotate_left
 ·(intro wq hSq; (try dsimp only at hSq); go_simp; try with_reducible rfl)
 try simp only [q0P, q0Q, q0R, q0S]
 refine tkH 15 (v := ?_) rfl ?_ ?_
 rotate_left
 ·(intro wq hSq; (try dsimp only at hSq); go_simp; try with_reducible rfl)
 try simp only [q0P, q0Q, q0R, q0S]
 refine tkH 16 (v := ?_) rfl ?_ ?_
 rotate_left
 ·(intro wq hSq; (try dsimp only at hSq); go_simp; try with_reducible rfl)
 try simp only [q0P, q0Q, q0R, q0S]
 refine tkH 17 (v := ?_) rfl ?_ ?_
 rotate_left
 ·(intro wq hSq; (try dsimp only at hSq); go_simp; try with_reducible rfl)
 try simp only [q0P, q0Q, q0R, q0S]
 refine wpAnyH_end (by kernel_rfl) ?_
 clear hS2
 go_wp2_with fail
 go_ret
 exact ⟨rfl, .inl ⟨_, _, _, _, _, HB4.out⟩⟩
theorem act_2 (B bb : Nat) (P : QP) (R : RQP) (v u : Value) (x : Qst) (a : JAct) (w W : World) (h : Bo B bb P R v u x x w W) (hT : ∀ X, Below B w X → TabAt X) (hwf : a.wf) (htx : a.text.length ≤ 100000000) (hm : a.what % 14 = 2) :
  Calls Tryz.prog 10 #[.pointer (some ⟨bb, 0, none⟩), a.val] W fun e w' => e = .returned (.bool true) ∧ After B bb w w' := by
 have hwl := hwf.w0
 have hmi : ((a.what : Int)).tmod 14 = 2 := by
  rw [Int.tmod_eq_emod_of_nonneg (by omega)]; omega
 have hmi2 : (a.what : Int) % 14 = 2 := by omega
 obtain ⟨b, hb⟩ : ∃ b, b = W.heap.size := ⟨_, rfl⟩
 obtain ⟨W1, hW1⟩ : ∃ X, X = W.alloc (actObj a) := ⟨_, rfl⟩
 have g1 : W1.heap[b]? = some (actObj a) := by rw [hW1, hb]; exact alloc_last _ _ rfl
 have hb1 : Below W.heap.size W W1 := by rw [hW1]; exact (Below.refl _ W).alloc (Nat.le_refl _) _
 have HK := Lib.hid (Keep.new h hb g1)
 have HB := Lib.hid (h.below hb1)
 have HBW := Lib.hid hb
 have HT := Lib.hid hT
 have HWF := Lib.hid hwf
 have HTX := Lib.hid htx
 have h0 := Lib.hid h
 obtain ⟨k0, -⟩ := act_cells g1
 unfold actObj at hW1
 have HW1 := Lib.hid hW1
 clear g1 hb1 hW1 hb h hm hT hwf htx
 unfold JAct.val
 go_enter Tryz.func10, Tryz.ntmps10
 go_upto_region 1 with (fail)
 rw [← HW1.out, ← HBW.out]
 clear HW1 HBW h0
 go_upto_region 9 with (fail)
 clear k0 hmi hmi2
 obtain ⟨r, hr⟩ : ∃ r, r = x.take := ⟨_, rfl⟩
 have HC := Lib.hid (fun X hX => (Take_did P v x X hX))
 have HD := Lib.hid (fun u X hX => (rfTake_did R u x X hX))
 rw [← hr] at HC HD
 clear hr
 obtain ⟨⟨j, r1, r2⟩, r3⟩ := r
 dsimp only at HC HD
 have hq := fun W => job_eql j j W
 have hg := fun op a b W => job_guard op a b j j W
 rw [show decide (j = j) = true from decide_eq_true rfl] at hq
 have HBX : Hid (∀ W : World, BoxAt (W.alloc (.cells #[.int .i64 (j.id : Int), .string (bytesOf j.client), .string (bytesOf j.token), .int .i64 (j.prio : Int), .int .i64 (j.state : Int), .int .i64 (j.tries : Int), .string (bytesOf j.work), .string (bytesOf j.point), .string (bytesOf j.result)] 48)) W.heap.size j) := Lib.hid (fun W => alloc_last _ _ rfl)
 unfold Jb.val Jb.cells strV at HC HD hq hg
 have HEQ := Lib.hid hq
 have HGU := Lib.hid hg
 clear hq hg
 obtain ⟨⟨q0, q1, q2, q3, q4⟩, -⟩ := bo_cells HB.out.bx.hp
 obtain ⟨k0, k1, k2, k3, k4, k5⟩ := act_cells HK.out.hp
 clear k0 k1 k2 k3 k4 k5
 go_wp2_with fail
 refine (HC.out _ HB.out.xa).mono ?_
 rintro e w2 ⟨rfl, v2, hq2, hs2⟩
 have HB2 := Lib.hid (HB.out.left hq2 hs2)
 clear hq2 hs2 HB HK q0 q1 q2 q3 q4
 have hbA : Below w2.heap.size w2 (w2.alloc (.cells #[.int .i64 (j.id : Int), .string (bytesOf j.client), .string (bytesOf j.token), .int .i64 (j.prio : Int), .int .i64 (j.state : Int), .int .i64 (j.tries : Int), .string (bytesOf j.work), .string (bytesOf j.point), .string (bytesOf j.result)] 48)) := (Below.refl _ w2).alloc (Nat.le_refl _) _
 have HB3 := Lib.hid (HB2.out.below hbA)
 have bx3 : BoxAt (w2.alloc (.cells #[.int .i64 (j.id : Int), .string (bytesOf j.client), .string (bytesOf j.token), .int .i64 (j.prio : Int), .int .i64 (j.state : Int), .int .i64 (j.tries : Int), .string (bytesOf j.work), .string (bytesOf j.point), .string (bytesOf j.result)] 48)) w2.heap.size j := HBX.out w2
 obtain ⟨p3, hp3⟩ : ∃ p, p = w2.heap.size := ⟨_, rfl⟩
 have HK3 := Lib.hid (Keep.new HB2.out hp3 (W' := w2.alloc (.cells #[.int .i64 (j.id : Int), .string (bytesOf j.client), .string (bytesOf j.token), .int .i64 (j.prio : Int), .int .i64 (j.state : Int), .int .i64 (j.tries : Int), .string (bytesOf j.work), .string (bytesOf j.point), .string (bytesOf j.result)] 48)) (by rw [hp3]; exact bx3))
 obtain ⟨W3, hW3⟩ : ∃ X, X = w2.alloc (.cells #[.int .i64 (j.id : Int), .string (bytesOf j.client), .string (bytesOf j.token), .int .i64 (j.prio : Int), .int .i64 (j.state : Int), .int .i64 (j.tries : Int), .string (bytesOf j.work), .string (bytesOf j.point), .string (bytesOf j.result)] 48) := ⟨_, rfl⟩
 rw [← hW3] at HB3 HK3
 have HW3 := Lib.hid hW3
 have HP3 := Lib.hid hp3
 clear hbA bx3 hp3 hW3
 go_upto_region 10 with (fail)
 rw [← HW3.out, ← HP3.out]
 clear HW3 HP3
 obtain ⟨⟨q0, q1, q2, q3, q4⟩, -⟩ := bo_cells HB3.out.bx.hp
 go_wp2_with fail
 refine (HD.out _ _ HB3.out.ya).mono ?_
 rintro e w4 ⟨rfl, u4, hq4, hs4⟩
 have HB4 := Lib.hid (HB3.out.right hq4 hs4)
 have HK4 := Lib.hid (HK3.out.right hs4)
 clear hq4 hs4 HB3 HK3 HB2 q0 q1 q2 q3 q4
 have hbA : Below w4.heap.size w4 (w4.alloc (.cells #[.int .i64 (j.id : Int), .string (bytesOf j.client), .string (bytesOf j.token), .int .i64 (j.prio : Int), .int .i64 (j.state : Int), .int .i64 (j.tries : Int), .string (bytesOf j.work), .string (bytesOf j.point), .string (bytesOf j.result)] 48)) := (Below.refl _ w4).alloc (Nat.le_refl _) _
 have HB5 := Lib.hid (HB4.out.below hbA)
 have hk5 := HK4.out.below hbA
 have bx5 : BoxAt (w4.alloc (.cells #[.int .i64 (j.id : Int), .string (bytesOf j.client), .string (bytesOf j.token), .int .i64 (j.prio : Int), .int .i64 (j.state : Int), .int .i64 (j.tries : Int), .string (bytesOf j.work), .string (bytesOf j.point), .string (bytesOf j.result)] 48)) w4.heap.size j := HBX.out w4
 have bx6 : BoxAt (w4.alloc (.cells #[.int .i64 (j.id : Int), .string (bytesOf j.client), .string (bytesOf j.token), .int .i64 (j.prio : Int), .int .i64 (j.state : Int), .int .i64 (j.tries : Int), .string (bytesOf j.work), .string (bytesOf j.point), .string (bytesOf j.result)] 48)) p3 j := hk5.hp
 obtain ⟨p5, hp5⟩ : ∃ p, p = w4.heap.size := ⟨_, rfl⟩
 rw [← hp5] at bx5
 obtain ⟨W5, hW5⟩ : ∃ X, X = w4.alloc (.cells #[.int .i64 (j.id : Int), .string (bytesOf j.client), .string (bytesOf j.token), .int .i64 (j.prio : Int), .int .i64 (j.state : Int), .int .i64 (j.tries : Int), .string (bytesOf j.work), .string (bytesOf j.point), .string (bytesOf j.result)] 48) := ⟨_, rfl⟩
 rw [← hW5] at HB5 bx5 bx6
 have HW5 := Lib.hid hW5
 have HP5 := Lib.hid hp5
 have H5 := Lib.hid bx5
 have H6 := Lib.hid bx6
 clear hbA hk5 bx5 bx6 hp5 hW5
 go_upto_region 11 with (fail)
 rw [← HW5.out, ← HP5.out]
 clear HW5 HP5
 obtain ⟨d0, d1, d2, d3, d4, d5, d6, d7, d8⟩ := H5.out.all
 obtain ⟨e0, e1, e2, e3, e4, e5, e6, e7, e8⟩ := H6.out.all
 have hq := HEQ.out
 have hg := HGU.out
 cases r1
 all_goals
  go_wp2_with fail
  go_ret
  exact ⟨rfl, .inl ⟨_, _, _, _, _, HB5.out⟩⟩
theorem act_3 (B bb : Nat) (P : QP) (R : RQP) (v u : Value) (x : Qst) (a : JAct) (w W : World) (h : Bo B bb P R v u x x w W) (hT : ∀ X, Below B w X → TabAt X) (hwf : a.wf) (htx : a.text.length ≤ 100000000) (hm : a.what % 14 = 3) :
  Calls Tryz.prog 10 #[.pointer (some ⟨bb, 0, none⟩), a.val] W fun e w' => e = .returned (.bool true) ∧ After B bb w w' := by
 have hwl := hwf.w0
 have hmi : ((a.what : Int)).tmod 14 = 3 := by
  rw [Int.tmod_eq_emod_of_nonneg (by omega)]; omega
 have hmi2 : (a.what : Int) % 14 = 3 := by omega
 obtain ⟨b, hb⟩ : ∃ b, b = W.heap.size := ⟨_, rfl⟩
 obtain ⟨W1, hW1⟩ : ∃ X, X = W.alloc (actObj a) := ⟨_, rfl⟩
 have g1 : W1.heap[b]? = some (actObj a) := by rw [hW1, hb]; exact alloc_last _ _ rfl
 have hb1 : Below W.heap.size W W1 := by rw [hW1]; exact (Below.refl _ W).alloc (Nat.le_refl _) _
 have HK := Lib.hid (Keep.new h hb g1)
 have HB := Lib.hid (h.below hb1)
 have HBW := Lib.hid hb
 have HT := Lib.hid hT
 have HWF := Lib.hid hwf
 have HTX := Lib.hid htx
 have h0 := Lib.hid h
 obtain ⟨k0, -⟩ := act_cells g1
 unfold actObj at hW1
 have HW1 := Lib.hid hW1
 clear g1 hb1 hW1 hb h hm hT hwf htx
 unfold JAct.val
 go_enter Tryz.func10, Tryz.ntmps10
 go_upto_region 1 with (fail)
 rw [← HW1.out, ← HBW.out]
 clear HW1 HBW h0
 go_upto_region 9 with (fail)
 clear k0 hmi hmi2
 obtain ⟨r, hr⟩ : ∃ r, r = x.take := ⟨_, rfl⟩
 have HC := Lib.hid (fun X hX => (Take_did P v x X hX))
 have HD := Lib.hid (fun u X hX => (rfTake_did R u x X hX))
 rw [← hr] at HC HD
 clear hr
 obtain ⟨⟨j, r1, r2⟩, r3⟩ := r
 dsimp only at HC HD
 have hq := fun W => job_eql j j W
 have hg := fun op a b W => job_guard op a b j j W
 rw [show decide (j = j) = true from decide_eq_true rfl] at hq
 have HBX : Hid (∀ W : World, BoxAt (W.alloc (.cells #[.int .i64 (j.id : Int), .string (bytesOf j.client), .string (bytesOf j.token), .int .i64 (j.prio : Int), .int .i64 (j.state : Int), .int .i64 (j.tries : Int), .string (bytesOf j.work), .string (bytesOf j.point), .string (bytesOf j.result)] 48)) W.heap.size j) := Lib.hid (fun W => alloc_last _ _ rfl)
 unfold Jb.val Jb.cells strV at HC HD hq hg
 have HEQ := Lib.hid hq
 have HGU := Lib.hid hg
 clear hq hg
 obtain ⟨⟨q0, q1, q2, q3, q4⟩, -⟩ := bo_cells HB.out.bx.hp
 obtain ⟨k0, k1, k2, k3, k4, k5⟩ := act_cells HK.out.hp
 clear k0 k1 k2 k3 k4 k5
 go_wp2_with fail
 refine (HC.out _ HB.out.xa).mono ?_
 rintro e w2 ⟨rfl, v2, hq2, hs2⟩
 have HB2 := Lib.hid (HB.out.left hq2 hs2)
 clear hq2 hs2 HB HK q0 q1 q2 q3 q4
 have hbA : Below w2.heap.size w2 (w2.alloc (.cells #[.int .i64 (j.id : Int), .string (bytesOf j.client), .string (bytesOf j.token), .int .i64 (j.prio : Int), .int .i64 (j.state : Int), .int .i64 (j.tries : Int), .string (bytesOf j.work), .string (bytesOf j.point), .string (bytesOf j.result)] 48)) := (Below.refl _ w2).alloc (Nat.le_refl _) _
 have HB3 := Lib.hid (HB2.out.below hbA)
 have bx3 : BoxAt (w2.alloc (.cells #[.int .i64 (j.id : Int), .string (bytesOf j.client), .string (bytesOf j.token), .int .i64 (j.prio : Int), .int .i64 (j.state : Int), .int .i64 (j.tries : Int), .string (bytesOf j.work), .string (bytesOf j.point), .string (bytesOf j.result)] 48)) w2.heap.size j := HBX.out w2
 obtain ⟨p3, hp3⟩ : ∃ p, p = w2.heap.size := ⟨_, rfl⟩
 have HK3 := Lib.hid (Keep.new HB2.out hp3 (W' := w2.alloc (.cells #[.int .i64 (j.id : Int), .string (bytesOf j.client), .string (bytesOf j.token), .int .i64 (j.prio : Int), .int .i64 (j.state : Int), .int .i64 (j.tries : Int), .string (bytesOf j.work), .string (bytesOf j.point), .string (bytesOf j.result)] 48)) (by rw [hp3]; exact bx3))
 obtain ⟨W3, hW3⟩ : ∃ X, X = w2.alloc (.cells #[.int .i64 (j.id : Int), .string (bytesOf j.client), .string (bytesOf j.token), .int .i64 (j.prio : Int), .int .i64 (j.state : Int), .int .i64 (j.tries : Int), .string (bytesOf j.work), .string (bytesOf j.point), .string (bytesOf j.result)] 48) := ⟨_, rfl⟩
 rw [← hW3] at HB3 HK3
 have HW3 := Lib.hid hW3
 have HP3 := Lib.hid hp3
 clear hbA bx3 hp3 hW3
 go_upto_region 10 with (fail)
 rw [← HW3.out, ← HP3.out]
 clear HW3 HP3
 obtain ⟨⟨q0, q1, q2, q3, q4⟩, -⟩ := bo_cells HB3.out.bx.hp
 go_wp2_with fail
 refine (HD.out _ _ HB3.out.ya).mono ?_
 rintro e w4 ⟨rfl, u4, hq4, hs4⟩
 have HB4 := Lib.hid (HB3.out.right hq4 hs4)
 have HK4 := Lib.hid (HK3.out.right hs4)
 clear hq4 hs4 HB3 HK3 HB2 q0 q1 q2 q3 q4
 have hbA : Below w4.heap.size w4 (w4.alloc (.cells #[.int .i64 (j.id : Int), .string (bytesOf j.client), .string (bytesOf j.token), .int .i64 (j.prio : Int), .int .i64 (j.state : Int), .int .i64 (j.tries : Int), .string (bytesOf j.work), .string (bytesOf j.point), .string (bytesOf j.result)] 48)) := (Below.refl _ w4).alloc (Nat.le_refl _) _
 have HB5 := Lib.hid (HB4.out.below hbA)
 have hk5 := HK4.out.below hbA
 have bx5 : BoxAt (w4.alloc (.cells #[.int .i64 (j.id : Int), .string (bytesOf j.client), .string (bytesOf j.token), .int .i64 (j.prio : Int), .int .i64 (j.state : Int), .int .i64 (j.tries : Int), .string (bytesOf j.work), .string (bytesOf j.point), .string (bytesOf j.result)] 48)) w4.heap.size j := HBX.out w4
 have bx6 : BoxAt (w4.alloc (.cells #[.int .i64 (j.id : Int), .string (bytesOf j.client), .string (bytesOf j.token), .int .i64 (j.prio : Int), .int .i64 (j.state : Int), .int .i64 (j.tries : Int), .string (bytesOf j.work), .string (bytesOf j.point), .string (bytesOf j.result)] 48)) p3 j := hk5.hp
 obtain ⟨p5, hp5⟩ : ∃ p, p = w4.heap.size := ⟨_, rfl⟩
 rw [← hp5] at bx5
 obtain ⟨W5, hW5⟩ : ∃ X, X = w4.alloc (.cells #[.int .i64 (j.id : Int), .string (bytesOf j.client), .string (bytesOf j.token), .int .i64 (j.prio : Int), .int .i64 (j.state : Int), .int .i64 (j.tries : Int), .string (bytesOf j.work), .string (bytesOf j.point), .string (bytesOf j.result)] 48) := ⟨_, rfl⟩
 rw [← hW5] at HB5 bx5 bx6
 have HW5 := Lib.hid hW5
 have HP5 := Lib.hid hp5
 have H5 := Lib.hid bx5
 have H6 := Lib.hid bx6
 clear hbA hk5 bx5 bx6 hp5 hW5
 go_upto_region 11 with (fail)
 rw [← HW5.out, ← HP5.out]
 clear HW5 HP5
 obtain ⟨d0, d1, d2, d3, d4, d5, d6, d7, d8⟩ := H5.out.all
 obtain ⟨e0, e1, e2, e3, e4, e5, e6, e7, e8⟩ := H6.out.all
 have hq := HEQ.out
 have hg := HGU.out
 cases r1
 all_goals
  go_wp2_with fail
  go_ret
  exact ⟨rfl, .inl ⟨_, _, _, _, _, HB5.out⟩⟩
theorem act_11 (B bb : Nat) (P : QP) (R : RQP) (v u : Value) (x : Qst) (a : JAct) (w W : World) (h : Bo B bb P R v u x x w W) (hT : ∀ X, Below B w X → TabAt X) (hwf : a.wf) (htx : a.text.length ≤ 100000000) (hm : a.what % 14 = 11) :
  Calls Tryz.prog 10 #[.pointer (some ⟨bb, 0, none⟩), a.val] W fun e w' => e = .returned (.bool true) ∧ After B bb w w' := by
 have hwl := hwf.w0
 have hmi : ((a.what : Int)).tmod 14 = 11 := by
  rw [Int.tmod_eq_emod_of_nonneg (by omega)]; omega
 have hmi2 : (a.what : Int) % 14 = 11 := by omega
 obtain ⟨b, hb⟩ : ∃ b, b = W.heap.size := ⟨_, rfl⟩
 obtain ⟨W1, hW1⟩ : ∃ X, X = W.alloc (actObj a) := ⟨_, rfl⟩
 have g1 : W1.heap[b]? = some (actObj a) := by rw [hW1, hb]; exact alloc_last _ _ rfl
 have hb1 : Below W.heap.size W W1 := by rw [hW1]; exact (Below.refl _ W).alloc (Nat.le_refl _) _
 have HK := Lib.hid (Keep.new h hb g1)
 have HB := Lib.hid (h.below hb1)
 have HBW := Lib.hid hb
 have HT := Lib.hid hT
 have HWF := Lib.hid hwf
 have HTX := Lib.hid htx
 have h0 := Lib.hid h
 obtain ⟨k0, -⟩ := act_cells g1
 unfold actObj at hW1
 have HW1 := Lib.hid hW1
 clear g1 hb1 hW1 hb h hm hT hwf htx
 unfold JAct.val
 go_enter Tryz.func10, Tryz.ntmps10
 go_upto_region 1 with (fail)
 rw [← HW1.out, ← HBW.out]
 clear HW1 HBW h0
 go_upto_region 27 with (fail)
 clear k0 hmi hmi2
 have HG := Lib.hid (fun (d : Dk) (hg : d.good) => fused_good hg a.prio HWF.out.w2.2)
 obtain ⟨r, hr⟩ : ∃ r, r = x.d.fused a.prio := ⟨_, rfl⟩
 have HC := Lib.hid (fun X hX => (Fuse_any P.d P.b0 P.b1 x.d a.prio X hX))
 have HD := Lib.hid (fun X hX => (rFuse_any R.d R.b x.d a.prio X hX))
 have HGX := Lib.hid (HG.out x.d HB.out.xa.good)
 rw [← hr] at HC HD HGX
 clear hr
 obtain ⟨r1, r2⟩ := r
 dsimp only at HC HD HGX
 obtain ⟨⟨q0, q1, q2, q3, q4⟩, -⟩ := bo_cells HB.out.bx.hp
 obtain ⟨k0, k1, k2, k3, k4, k5⟩ := act_cells HK.out.hp
 refine wp_region_heldL (fun w' => w'.cell? ⟨bb, 0, none⟩ = some (.pointer (some ⟨P.d, 0, none⟩)) ∧ w'.cell? ⟨bb, 2, none⟩ = some (.pointer (some ⟨R.d, 0, none⟩)) ∧ w'.cell? ⟨b, 2, none⟩ = some (.int .i64 a.prio)) (by kernel_rfl) ⟨q0, q2, k2⟩ (fun hS => ?_)
 clear q0 q1 q2 q3 q4 k0 k1 k2 k3 k4 k5
 refine tkH 0 (v := ?_) rfl ?_ ?_
 rotate_left
 ·(intro wq hSq; (try dsimp only at hSq); go_simp; try with_reducible rfl)
 try simp only [q0P, q0Q, q0R, q0S]
 refine tkH 1 (v := ?_) rfl ?_ ?_
 rotate_left
 ·(intro wq hSq; (try dsimp only at hSq); go_simp; try with_reducible rfl)
 try simp only [q0P, q0Q, q0R, q0S]
 refine tkH 2 (v := ?_) rfl ?_ ?_
 rotate_left
 ·(intro wq hSq; (try dsimp only at hSq); go_simp; try with_reducible rfl)
 try simp only [q0P, q0Q, q0R, q0S]
 refine tkH 3 (v := ?_) rfl ?_ ?_
 rotate_left
 ·(intro wq hSq; (try dsimp only at hSq); go_simp; try with_reducible rfl)
 try simp only [q0P, q0Q, q0R, q0S]
 refine tkH 4 (v := ?_) rfl ?_ ?_
 rotate_left
 ·(intro wq hSq; (try dsimp only at hSq); go_simp; try with_reducible rfl)
 try simp only [q0P, q0Q, q0R, q0S]
 refine tkH 5 (v := ?_) rfl ?_ ?_
 rotate_left
 ·(intro wq hSq; (try dsimp only at hSq); go_simp; try with_reducible rfl)
 try simp only [q0P, q0Q, q0R, q0S]
 refine tkH 7 (v := ?_) rfl ?_ ?_
 rotate_left
 ·(intro wq hSq; (try dsimp only at hSq); go_simp; try with_reducible rfl)
 try simp only [q0P, q0Q, q0R, q0S]
 refine tkH 8 (v := ?_) rfl ?_ ?_
 rotate_left
 ·(intro wq hSq; (try dsimp only at hSq); go_simp; try with_reducible rfl)
 try simp only [q0P, q0Q, q0R, q0S]
 refine tkH 9 (v := ?_) rfl ?_ ?_
 rotate_left
 ·(intro wq hSq; (try dsimp only at hSq); go_simp; try with_reducible rfl)
 try simp only [q0P, q0Q, q0R, q0S]
 refine tkH 10 (v := ?_) rfl ?_ ?_
 rotate_left
 ·(intro wq hSq; (try dsimp only at hSq); go_simp; try with_reducible rfl)
 try simp only [q0P, q0Q, q0R, q0S]
 refine tkH 11 (v := ?_) rfl ?_ ?_
 rotate_left
 ·(intro wq hSq; (try dsimp only at hSq); go_simp; try with_reducible rfl)
 try simp only [q0P, q0Q, q0R, q0S]
 refine tkH 12 (v := ?_) rfl ?_ ?_
 rotate_left
 ·(intro wq hSq; (try dsimp only at hSq); go_simp; try with_reducible rfl)
 try simp only [q0P, q0Q, q0R, q0S]
 have HB1 := Lib.hid HB.out.drew
 have HK1 := Lib.hid HK.out.drew
 clear HB HK
 refine wpAnyH_stepL 6 (by kernel_rfl) rfl (fun K hK => ?_)
 go_simp
 go_at_call 39
 refine (HC.out _ HB1.out.xa.dk).mono ?_
 rintro e w2 ⟨rfl, hd2, hk2⟩
 have HB2 := Lib.hid (HB1.out.left (HB1.out.xa.disk hk2 hd2 HGX.out) (Stp.of_kp (kp_three hk2)))
 have HK2 := Lib.hid (HK1.out.left (Stp.of_kp (kp_three hk2)))
 clear hd2 hk2 HB1 HK1
 obtain ⟨⟨q0, q1, q2, q3, q4⟩, -⟩ := bo_cells HB2.out.bx.hp
 obtain ⟨k0, k1, k2, k3, k4, k5⟩ := act_cells HK2.out.hp
 refine hK.out _ _ ⟨q0, q2, k2⟩ (fun hS2 => ?_)
 clear hK K hS
 clear q0 q1 q2 q3 q4 k0 k1 k2 k3 k4 k5
 try simp only [q0P, q0Q, q0R, q0S]
 refine wpAnyH_stepL 13 (by kernel_rfl) rfl (fun K hK => ?_)
 go_simp
 go_at_call 40
 refine (HD.out _ HB2.out.ya.dk).mono ?_
 rintro e w3 ⟨rfl, hd3, hk3⟩
 have HB3 := Lib.hid (HB2.out.right (HB2.out.ya.disk hk3 hd3 HGX.out) (RStp.of_kp (rkp_two hk3)))
 have HK3 := Lib.hid (HK2.out.right (RStp.of_kp (rkp_two hk3)))
 clear hd3 hk3 HB2 HK2
 obtain ⟨⟨q0, q1, q2, q3, q4⟩, -⟩ := bo_cells HB3.out.bx.hp
 obtain ⟨k0, k1, k2, k3, k4, k5⟩ := act_cells HK3.out.hp
 refine hK.out _ _ ⟨q0, q2, k2⟩ (fun hS3 => ?_)
 clear hK K hS2
 clear q0 q1 q2 q3 q4 k0 k1 k2 k3 k4 k5
 try simp only [q0P, q0Q, q0R, q0S]
 refine tkH 14 (v := ?_) rfl ?_ ?_
 rotate_left
 ·(intro wq hSq; (try dsimp only at hSq); go_simp; try with_reducible rfl)
 try simp only [q0P, q0Q, q0R, q0S]
 refine tkH 15 (v := ?_) rfl ?_ ?_
 rotate_left
 ·(intro wq hSq; (try dsimp only at hSq); go_simp; try with_reducible rfl)
 try simp only [q0P, q0Q, q0R, q0S]
 refine wpAnyH_end (by kernel_rfl) ?_
 go_wp2_with fail
 go_ret
 exact ⟨rfl, .inl ⟨_, _, _, _, _, HB3.out⟩⟩
theorem act_12 (B bb : Nat) (P : QP) (R : RQP) (v u : Value) (x : Qst) (a : JAct) (w W : World) (h : Bo B bb P R v u x x w W) (hT : ∀ X, Below B w X → TabAt X) (hwf : a.wf) (htx : a.text.length ≤ 100000000) (hm : a.what % 14 = 12) :
  Calls Tryz.prog 10 #[.pointer (some ⟨bb, 0, none⟩), a.val] W fun e w' => e = .returned (.bool true) ∧ After B bb w w' := by
 have hwl := hwf.w0
 have hmi : ((a.what : Int)).tmod 14 = 12 := by
  rw [Int.tmod_eq_emod_of_nonneg (by omega)]; omega
 have hmi2 : (a.what : Int) % 14 = 12 := by omega
 obtain ⟨b, hb⟩ : ∃ b, b = W.heap.size := ⟨_, rfl⟩
 obtain ⟨W1, hW1⟩ : ∃ X, X = W.alloc (actObj a) := ⟨_, rfl⟩
 have g1 : W1.heap[b]? = some (actObj a) := by rw [hW1, hb]; exact alloc_last _ _ rfl
 have hb1 : Below W.heap.size W W1 := by rw [hW1]; exact (Below.refl _ W).alloc (Nat.le_refl _) _
 have HK := Lib.hid (Keep.new h hb g1)
 have HB := Lib.hid (h.below hb1)
 have HBW := Lib.hid hb
 have HT := Lib.hid hT
 have HWF := Lib.hid hwf
 have HTX := Lib.hid htx
 have h0 := Lib.hid h
 obtain ⟨k0, -⟩ := act_cells g1
 unfold actObj at hW1
 have HW1 := Lib.hid hW1
 clear g1 hb1 hW1 hb h hm hT hwf htx
 unfold JAct.val
 go_enter Tryz.func10, Tryz.ntmps10
 go_upto_region 1 with (fail)
 rw [← HW1.out, ← HBW.out]
 clear HW1 HBW h0
 go_upto_region 29 with (fail)
 clear k0 hmi hmi2
 have HO := Lib.hid (open_any B bb P.d P.b0 P.b1 R.d R.b _ _ x.d w W1 (HB.out.dsk rfl) HT.out)
 clear HB HK
 go_wp2_with fail
 refine HO.out.mono ?_
 rintro e w2 ⟨rfl, ha, -⟩
 go_wp2_with fail
 go_ret
 exact ⟨rfl, ha⟩
theorem act_13 (B bb : Nat) (P : QP) (R : RQP) (v u : Value) (x : Qst) (a : JAct) (w W : World) (h : Bo B bb P R v u x x w W) (hT : ∀ X, Below B w X → TabAt X) (hwf : a.wf) (htx : a.text.length ≤ 100000000) (hm : a.what % 14 = 13) :
  Calls Tryz.prog 10 #[.pointer (some ⟨bb, 0, none⟩), a.val] W fun e w' => e = .returned (.bool true) ∧ After B bb w w' := by
 have hwl := hwf.w0
 have hmi : ((a.what : Int)).tmod 14 = 13 := by
  rw [Int.tmod_eq_emod_of_nonneg (by omega)]; omega
 have hmi2 : (a.what : Int) % 14 = 13 := by omega
 obtain ⟨b, hb⟩ : ∃ b, b = W.heap.size := ⟨_, rfl⟩
 obtain ⟨W1, hW1⟩ : ∃ X, X = W.alloc (actObj a) := ⟨_, rfl⟩
 have g1 : W1.heap[b]? = some (actObj a) := by rw [hW1, hb]; exact alloc_last _ _ rfl
 have hb1 : Below W.heap.size W W1 := by rw [hW1]; exact (Below.refl _ W).alloc (Nat.le_refl _) _
 have HK := Lib.hid (Keep.new h hb g1)
 have HB := Lib.hid (h.below hb1)
 have HBW := Lib.hid hb
 have HT := Lib.hid hT
 have HWF := Lib.hid hwf
 have HTX := Lib.hid htx
 have h0 := Lib.hid h
 obtain ⟨k0, -⟩ := act_cells g1
 unfold actObj at hW1
 have HW1 := Lib.hid hW1
 clear g1 hb1 hW1 hb h hm hT hwf htx
 unfold JAct.val
 have HBB : Hid (¬ b = bb) := by have := HB.out.bx.hp; exact Lib.hid (fun e => by have h1 := lt_of_heap h0.out.bx.hp; have := HBW.out; omega)
 go_enter Tryz.func10, Tryz.ntmps10
 go_upto_region 1 with (fail)
 rw [← HW1.out, ← HBW.out]
 clear HW1 HBW h0
 go_upto_region 30 with (fail)
 clear k0 hmi hmi2
 obtain ⟨r, hr⟩ : ∃ r, r = x.d.appended a.text := ⟨_, rfl⟩
 have HC := Lib.hid (fun X hX => (Append_any P.d P.b0 P.b1 x.d a.text HTX.out X hX HB.out.xa.good.ok))
 have HD := Lib.hid (fun X hX => (rAppend_any R.d R.b x.d a.text HTX.out X hX HB.out.xa.good.ok))
 have HGX := Lib.hid (appended_post HB.out.xa.good a.text).good
 rw [← hr] at HC HD HGX
 clear hr
 obtain ⟨r1, r2⟩ := r
 dsimp only at HC HD HGX
 obtain ⟨⟨q0, q1, q2, q3, q4⟩, -⟩ := bo_cells HB.out.bx.hp
 obtain ⟨k0, k1, k2, k3, k4, k5⟩ := act_cells HK.out.hp
 refine wp_region_heldL (fun w' => w'.cell? ⟨bb, 0, none⟩ = some (.pointer (some ⟨P.d, 0, none⟩)) ∧ w'.cell? ⟨bb, 2, none⟩ = some (.pointer (some ⟨R.d, 0, none⟩)) ∧ w'.cell? ⟨b, 5, none⟩ = some (.string (bytesOf a.text))) (by kernel_rfl) ⟨q0, q2, k5⟩ (fun hS => ?_)
 clear q0 q1 q2 q3 q4 k0 k1 k2 k3 k4 k5
 refine tkH 0 (v := ?_) rfl ?_ ?_
 rotate_left
 ·(intro wq hSq; (try dsimp only at hSq); go_simp; try with_reducible rfl)
 try simp only [q0P, q0Q, q0R, q0S]
 refine tkH 1 (v := ?_) rfl ?_ ?_
 rotate_left
 ·(intro wq hSq; (try dsimp only at hSq); go_simp; try with_reducible rfl)
 try simp only [q0P, q0Q, q0R, q0S]
 refine tkH 2 (v := ?_) rfl ?_ ?_
 rotate_left
 ·(intro wq hSq; (try dsimp only at hSq); go_simp; try with_reducible rfl)
 try simp only [q0P, q0Q, q0R, q0S]
 refine tkH 3 (v := ?_) rfl ?_ ?_
 rotate_left
 ·(intro wq hSq; (try dsimp only at hSq); go_simp; try with_reducible rfl)
 try simp only [q0P, q0Q, q0R, q0S]
 refine tkH 4 (v := ?_) rfl ?_ ?_
 rotate_left
 ·(intro wq hSq; (try dsimp only at hSq); go_simp; try with_reducible rfl)
 try simp only [q0P, q0Q, q0R, q0S]
 refine tkH 5 (v := ?_) rfl ?_ ?_
 rotate_left
 ·(intro wq hSq; (try dsimp only at hSq); go_simp; try with_reducible rfl)
 try simp only [q0P, q0Q, q0R, q0S]
 refine tkH 7 (v := ?_) rfl ?_ ?_
 rotate_left
 ·(intro wq hSq; (try dsimp only at hSq); go_simp; try with_reducible rfl)
 try simp only [q0P, q0Q, q0R, q0S]
 refine tkH 8 (v := ?_) rfl ?_ ?_
 rotate_left
 ·(intro wq hSq; (try dsimp only at hSq); go_simp; try with_reducible rfl)
 try simp only [q0P, q0Q, q0R, q0S]
 refine tkH 9 (v := ?_) rfl ?_ ?_
 rotate_left
 ·(intro wq hSq; (try dsimp only at hSq); go_simp; try with_reducible rfl)
 try simp only [q0P, q0Q, q0R, q0S]
 refine tkH 10 (v := ?_) rfl ?_ ?_
 rotate_left
 ·(intro wq hSq; (try dsimp only at hSq); go_simp; try with_reducible rfl)
 try simp only [q0P, q0Q, q0R, q0S]
 refine tkH 11 (v := ?_) rfl ?_ ?_
 rotate_left
 ·(intro wq hSq; (try dsimp only at hSq); go_simp; try with_reducible rfl)
 try simp only [q0P, q0Q, q0R, q0S]
 refine tkH 12 (v := ?_) rfl ?_ ?_
 rotate_left
 ·(intro wq hSq; (try dsimp only at hSq); go_simp; try with_reducible rfl)
 try simp only [q0P, q0Q, q0R, q0S]
 have HB1 := Lib.hid HB.out.drew
 have HK1 := Lib.hid HK.out.drew
 clear HB HK
 refine wpAnyH_stepL 6 (by kernel_rfl) rfl (fun K hK => ?_)
 go_simp
 go_at_call 41
 refine (HC.out _ HB1.out.xa.dk).mono ?_
 rintro e w2 ⟨rfl, hd2, hk2⟩
 have HB2 := Lib.hid (HB1.out.left (HB1.out.xa.disk hk2 hd2 HGX.out) (Stp.of_kp (kp_three hk2)))
 have HK2 := Lib.hid (HK1.out.left (Stp.of_kp (kp_three hk2)))
 clear hd2 hk2 HB1 HK1
 obtain ⟨⟨q0, q1, q2, q3, q4⟩, -⟩ := bo_cells HB2.out.bx.hp
 obtain ⟨k0, k1, k2, k3, k4, k5⟩ := act_cells HK2.out.hp
 refine hK.out _ _ ⟨q0, q2, k5⟩ (fun hS2 => ?_)
 clear hK K hS
 clear q0 q1 q2 q3 q4 k0 k1 k2 k3 k4 k5
 try simp only [q0P, q0Q, q0R, q0S]
 refine wpAnyH_stepL 13 (by kernel_rfl) rfl (fun K hK => ?_)
 go_simp
 go_at_call 42
 refine (HD.out _ HB2.out.ya.dk).mono ?_
 rintro e w3 ⟨rfl, hd3, hk3⟩
 have HB3 := Lib.hid (HB2.out.right (HB2.out.ya.disk hk3 hd3 HGX.out) (RStp.of_kp (rkp_two hk3)))
 have HK3 := Lib.hid (HK2.out.right (RStp.of_kp (rkp_two hk3)))
 clear hd3 hk3 HB2 HK2
 obtain ⟨⟨q0, q1, q2, q3, q4⟩, -⟩ := bo_cells HB3.out.bx.hp
 obtain ⟨k0, k1, k2, k3, k4, k5⟩ := act_cells HK3.out.hp
 have HO := Lib.hid (open_any B bb P.d P.b0 P.b1 R.d R.b _ _ r2 w w3 (HB3.out.dsk rfl) HT.out)
 refine hK.out _ _ ⟨q0, q2, k5⟩ (fun hS3 => ?_)
 clear hK K hS2
 clear q0 q1 q2 q3 q4 k0 k1 k2 k3 k4 k5
 try simp only [q0P, q0Q, q0R, q0S]
 refine tkH 14 (v := ?_) rfl ?_ ?_
 rotate_left
 ·(intro wq hSq; (try dsimp only at hSq); go_simp; try with_reducible rfl)
 try simp only [q0P, q0Q, q0R, q0S]
 refine tkH 15 (v := ?_) rfl ?_ ?_
 rotate_left
 ·(intro wq hSq; (try dsimp only at hSq); go_simp; try with_reducible rfl)
 try simp only [q0P, q0Q, q0R, q0S]
 refine tkH 16 (v := ?_) rfl ?_ ?_
 rotate_left
 ·(intro wq hSq; (try dsimp only at hSq); go_simp; try with_reducible rfl)
 try simp only [q0P, q0Q, q0R, q0S]
 refine wpAnyH_stepL 17 (by kernel_rfl) rfl (fun K hK => ?_)
 go_simp
 go_at_call 9
 refine HO.out.mono ?_
 rintro e w4 ⟨rfl, ha, ⟨m0, m2⟩, hx, -⟩
 obtain ⟨-, -, -, -, -, m5⟩ := act_cells (hx b _ HK3.out.hp (fun e => HK3.out.nx (three_mine e)) (fun e => HK3.out.ny (two_mine e)) HBB.out)
 refine hK.out _ _ ⟨m0, m2, m5⟩ (fun hS4 => ?_)
 clear hK K hS3 m0 m2 m5 hx
 try simp only [q0P, q0Q, q0R, q0S]
 refine tkH 18 (v := ?_) rfl ?_ ?_
 rotate_left
 ·(intro wq hSq; (try dsimp only at hSq); go_simp; try with_reducible rfl)
 try simp only [q0P, q0Q, q0R, q0S]
 refine tkH 19 (v := ?_) rfl ?_ ?_
 rotate_left
 ·(intro wq hSq; (try dsimp only at hSq); go_simp; try with_reducible rfl)
 try simp only [q0P, q0Q, q0R, q0S]
 refine wpAnyH_end (by kernel_rfl) ?_
 go_wp2_with fail
 go_ret
 exact ⟨rfl, ha⟩
theorem act_any (B bb : Nat) (P : QP) (R : RQP) (v u : Value) (x : Qst) (a : JAct) (w W : World) (h : Bo B bb P R v u x x w W) (hT : ∀ X, Below B w X → TabAt X) (hwf : a.wf) (htx : a.text.length ≤ 100000000) :
  Calls Tryz.prog 10 #[.pointer (some ⟨bb, 0, none⟩), a.val] W fun e w' => e = .returned (.bool true) ∧ After B bb w w' := by
 have hm := Nat.mod_lt a.what (show 0 < 14 by omega)
 rcases (show a.what % 14 = 0 ∨ a.what % 14 = 1 ∨ a.what % 14 = 2 ∨ a.what % 14 = 3 ∨ a.what % 14 = 4 ∨ a.what % 14 = 5 ∨ a.what % 14 = 6 ∨ a.what % 14 = 7 ∨ a.what % 14 = 8 ∨ a.what % 14 = 9 ∨ a.what % 14 = 10 ∨ a.what % 14 = 11 ∨ a.what % 14 = 12 ∨ a.what % 14 = 13 by omega) with h0 | h0 | h0 | h0 | h0 | h0 | h0 | h0 | h0 | h0 | h0 | h0 | h0 | h0
 ·exact act_0 B bb P R v u x a w W h hT hwf htx h0
 ·exact act_1 B bb P R v u x a w W h hT hwf htx h0
 ·exact act_2 B bb P R v u x a w W h hT hwf htx h0
 ·exact act_3 B bb P R v u x a w W h hT hwf htx h0
 ·exact act_4 B bb P R v u x a w W h hT hwf htx h0
 ·exact act_5 B bb P R v u x a w W h hT hwf htx h0
 ·exact act_6 B bb P R v u x a w W h hT hwf htx h0
 ·exact act_7 B bb P R v u x a w W h hT hwf htx h0
 ·exact act_8 B bb P R v u x a w W h hT hwf htx h0
 ·exact act_9 B bb P R v u x a w W h hT hwf htx h0
 ·exact act_10 B bb P R v u x a w W h hT hwf htx h0
 ·exact act_11 B bb P R v u x a w W h hT hwf htx h0
 ·exact act_12 B bb P R v u x a w W h hT hwf htx h0
 ·exact act_13 B bb P R v u x a w W h hT hwf htx h0
end
/- Laws of the jobs: what is seen of both queues. Printed by gen_pj5.py. -/
section
open Go.RowKit Go.Shelf
theorem alike_jobs (B bb : Nat) (P : QP) (R : RQP) (v u : Value) (x : Qst) (id : Int) (w W : World) (h : Bo B bb P R v u x x w W) :
  Calls Tryz.prog 11 #[.pointer (some ⟨bb, 0, none⟩), .int .i64 id] W fun e w' => e = .returned (.bool true) ∧ Bo B bb P R v u x x w w' := by
 have HB := Lib.hid h
 obtain ⟨er, her⟩ : ∃ e, e = x.d.seenErr := ⟨_, rfl⟩
 have HER := Lib.hid her
 have HTL : Hid (x.d.texts.length ≤ 9223372036854775807) := by have := texts_len2 h.xa.good; show _ ≤ _; omega
 have HJL : Hid (x.list.length ≤ 100000) := by
  have := h.xa.fine.ok.len
  show _ ≤ _
  unfold Qst.list
  split
  ·simp
  ·omega
 obtain ⟨g, hg⟩ : ∃ g, g = x.get id := ⟨_, rfl⟩
 have HC := Lib.hid (fun X hX => Get_did P v x id X hX)
 have HD := Lib.hid (fun X hX => rfGet_did R u x id X hX)
 rw [← hg] at HC HD
 clear hg
 obtain ⟨j, r1⟩ := g
 dsimp only at HC HD
 have hq := fun W => job_eql j j W
 have hgu := fun op a b W => job_guard op a b j j W
 rw [show decide (j = j) = true from decide_eq_true rfl] at hq
 have HBX : Hid (∀ W : World, BoxAt (W.alloc (.cells #[.int .i64 (j.id : Int), .string (bytesOf j.client), .string (bytesOf j.token), .int .i64 (j.prio : Int), .int .i64 (j.state : Int), .int .i64 (j.tries : Int), .string (bytesOf j.work), .string (bytesOf j.point), .string (bytesOf j.result)] 48)) W.heap.size j) := Lib.hid (fun W => alloc_last _ _ rfl)
 unfold Jb.val Jb.cells strV at HC HD hq hgu
 have HEQ := Lib.hid hq
 have HGU := Lib.hid hgu
 obtain ⟨⟨q0, q1, q2, q3, -⟩, -⟩ := bo_cells HB.out.bx.hp
 clear hq hgu her h
 go_enter Tryz.func11, Tryz.ntmps11
 go_wp2_with fail
 refine (Records_any P.d P.b0 P.b1 x.d _ HB.out.xa.dk HB.out.xa.good.ok).mono ?_
 rintro e w1 ⟨⟨l1, he, hr1, -⟩, hb1⟩
 rw [← HER.out] at he
 subst he
 have HR1 := Lib.hid hr1
 obtain ⟨va, vc, rfl, -, -, -, -⟩ := hr1
 obtain ⟨L1, hL1⟩ : ∃ L, L = (x.d.texts.map strV).length := ⟨_, rfl⟩
 rw [← hL1] at HR1 ⊢
 have HB1 := Lib.hid (HB.out.below hb1)
 obtain ⟨⟨q0, q1, q2, q3, -⟩, -⟩ := bo_cells HB1.out.bx.hp
 clear hL1 hb1 HB
 go_wp2_with fail
 refine (rRecords_any R.d R.b x.d _ HB1.out.ya.dk HB1.out.xa.good.ok).mono ?_
 rintro e w2 ⟨⟨l2, he, hr2, -⟩, hb2⟩
 rw [← HER.out] at he
 subst he
 have HR2 := Lib.hid hr2
 obtain ⟨ua, uc, rfl, -, -, -, -⟩ := hr2
 obtain ⟨L2, hL2⟩ : ∃ L, L = (x.d.texts.map strV).length := ⟨_, rfl⟩
 rw [← hL2] at HR2 ⊢
 have HB2 := Lib.hid (HB1.out.below hb2)
 have HR12 := Lib.hid ((HR1.out.below hb2).mono hb2.size)
 obtain ⟨⟨q0, q1, q2, q3, -⟩, -⟩ := bo_cells HB2.out.bx.hp
 clear hL2 hb2 HB1 HR1
 go_wp2_with fail
 refine (HC.out _ HB2.out.xa).mono ?_
 rintro e w3 ⟨rfl, hb3⟩
 have hbA : Below w3.heap.size w3 (w3.alloc (.cells #[.int .i64 (j.id : Int), .string (bytesOf j.client), .string (bytesOf j.token), .int .i64 (j.prio : Int), .int .i64 (j.state : Int), .int .i64 (j.tries : Int), .string (bytesOf j.work), .string (bytesOf j.point), .string (bytesOf j.result)] 48)) := (Below.refl _ w3).alloc (Nat.le_refl _) _
 have hbA2 := hb3.trans (hbA.mono hb3.size)
 have HB3 := Lib.hid (HB2.out.below hb3)
 have HB4 := Lib.hid (HB2.out.below hbA2)
 have HR14 := Lib.hid ((HR12.out.below hbA2).mono hbA2.size)
 have HR24 := Lib.hid ((HR2.out.below hbA2).mono hbA2.size)
 have bx : BoxAt (w3.alloc (.cells #[.int .i64 (j.id : Int), .string (bytesOf j.client), .string (bytesOf j.token), .int .i64 (j.prio : Int), .int .i64 (j.state : Int), .int .i64 (j.tries : Int), .string (bytesOf j.work), .string (bytesOf j.point), .string (bytesOf j.result)] 48)) w3.heap.size j := HBX.out w3
 obtain ⟨p5, hp5⟩ : ∃ p, p = w3.heap.size := ⟨_, rfl⟩
 have HK4 := Lib.hid (Keep.new HB3.out hp5 (W' := w3.alloc (.cells #[.int .i64 (j.id : Int), .string (bytesOf j.client), .string (bytesOf j.token), .int .i64 (j.prio : Int), .int .i64 (j.state : Int), .int .i64 (j.tries : Int), .string (bytesOf j.work), .string (bytesOf j.point), .string (bytesOf j.result)] 48)) (by rw [hp5]; exact bx))
 obtain ⟨W4, hW4⟩ : ∃ X, X = w3.alloc (.cells #[.int .i64 (j.id : Int), .string (bytesOf j.client), .string (bytesOf j.token), .int .i64 (j.prio : Int), .int .i64 (j.state : Int), .int .i64 (j.tries : Int), .string (bytesOf j.work), .string (bytesOf j.point), .string (bytesOf j.result)] 48) := ⟨_, rfl⟩
 rw [← hW4] at HB4 HK4 HR14 HR24
 have HW4 := Lib.hid hW4
 have HP5 := Lib.hid hp5
 clear hbA hbA2 bx hp5 hW4 hb3 HB3 HB2 HR12 HR2 q0 q1 q2 q3
 go_upto_region 4 with (fail)
 rw [← HW4.out, ← HP5.out]
 clear HW4 HP5
 obtain ⟨⟨-, -, -, q3, -⟩, -⟩ := bo_cells HB4.out.bx.hp
 go_wp2_with fail
 refine (HD.out _ HB4.out.ya).mono ?_
 rintro e w5 ⟨rfl, hb5⟩
 have hbA : Below w5.heap.size w5 (w5.alloc (.cells #[.int .i64 (j.id : Int), .string (bytesOf j.client), .string (bytesOf j.token), .int .i64 (j.prio : Int), .int .i64 (j.state : Int), .int .i64 (j.tries : Int), .string (bytesOf j.work), .string (bytesOf j.point), .string (bytesOf j.result)] 48)) := (Below.refl _ w5).alloc (Nat.le_refl _) _
 have hbA2 := hb5.trans (hbA.mono hb5.size)
 have HB5 := Lib.hid (HB4.out.below hb5)
 have HB6 := Lib.hid (HB4.out.below hbA2)
 have HR16 := Lib.hid ((HR14.out.below hbA2).mono hbA2.size)
 have HR26 := Lib.hid ((HR24.out.below hbA2).mono hbA2.size)
 have HK6 := Lib.hid (HK4.out.below hbA2)
 have bx : BoxAt (w5.alloc (.cells #[.int .i64 (j.id : Int), .string (bytesOf j.client), .string (bytesOf j.token), .int .i64 (j.prio : Int), .int .i64 (j.state : Int), .int .i64 (j.tries : Int), .string (bytesOf j.work), .string (bytesOf j.point), .string (bytesOf j.result)] 48)) w5.heap.size j := HBX.out w5
 obtain ⟨p6, hp6⟩ : ∃ p, p = w5.heap.size := ⟨_, rfl⟩
 have HL6 := Lib.hid (Keep.new HB5.out hp6 (W' := w5.alloc (.cells #[.int .i64 (j.id : Int), .string (bytesOf j.client), .string (bytesOf j.token), .int .i64 (j.prio : Int), .int .i64 (j.state : Int), .int .i64 (j.tries : Int), .string (bytesOf j.work), .string (bytesOf j.point), .string (bytesOf j.result)] 48)) (by rw [hp6]; exact bx))
 obtain ⟨W6, hW6⟩ : ∃ X, X = w5.alloc (.cells #[.int .i64 (j.id : Int), .string (bytesOf j.client), .string (bytesOf j.token), .int .i64 (j.prio : Int), .int .i64 (j.state : Int), .int .i64 (j.tries : Int), .string (bytesOf j.work), .string (bytesOf j.point), .string (bytesOf j.result)] 48) := ⟨_, rfl⟩
 rw [← hW6] at HB6 HK6 HL6 HR16 HR26
 have HW6 := Lib.hid hW6
 have HP6 := Lib.hid hp6
 clear hbA hbA2 bx hp6 hW6 hb5 HB5 HB4 HR14 HR24 HK4 q3
 go_upto_region 5 with (fail)
 rw [← HW6.out, ← HP6.out]
 clear HW6 HP6
 obtain ⟨⟨-, q1, -, q3, -⟩, -⟩ := bo_cells HB6.out.bx.hp
 obtain ⟨d0, d1, d2, d3, d4, d5, d6, d7, d8⟩ := BoxAt.all (j := j) HK6.out.hp
 obtain ⟨e0, e1, e2, e3, e4, e5, e6, e7, e8⟩ := BoxAt.all (j := j) HL6.out.hp
 have t1 : (er == er) = true := by simp
 have t2 : (r1 == r1) = true := by simp
 have hq := HEQ.out
 have hgu := HGU.out
 refine wp_region_heldL (fun w' => w'.cell? ⟨bb, 1, none⟩ = some (.pointer (some ⟨P.p, 0, none⟩)) ∧ w'.cell? ⟨bb, 3, none⟩ = some (.pointer (some ⟨R.p, 0, none⟩)) ∧ w'.cell? ⟨p5, 0, none⟩ = some (.int .i64 (j.id : Int)) ∧ w'.cell? ⟨p5, 1, none⟩ = some (.string (bytesOf j.client)) ∧ w'.cell? ⟨p5, 2, none⟩ = some (.string (bytesOf j.token)) ∧ w'.cell? ⟨p5, 3, none⟩ = some (.int .i64 (j.prio : Int)) ∧ w'.cell? ⟨p5, 4, none⟩ = some (.int .i64 (j.state : Int)) ∧ w'.cell? ⟨p5, 5, none⟩ = some (.int .i64 (j.tries : Int)) ∧ w'.cell? ⟨p5, 6, none⟩ = some (.string (bytesOf j.work)) ∧ w'.cell? ⟨p5, 7, none⟩ = some (.string (bytesOf j.point)) ∧ w'.cell? ⟨p5, 8, none⟩ = some (.string (bytesOf j.result)) ∧ w'.cell? ⟨p6, 0, none⟩ = some (.int .i64 (j.id : Int)) ∧ w'.cell? ⟨p6, 1, none⟩ = some (.string (bytesOf j.client)) ∧ w'.cell? ⟨p6, 2, none⟩ = some (.string (bytesOf j.token)) ∧ w'.cell? ⟨p6, 3, none⟩ = some (.int .i64 (j.prio : Int)) ∧ w'.cell? ⟨p6, 4, none⟩ = some (.int .i64 (j.state : Int)) ∧ w'.cell? ⟨p6, 5, none⟩ = some (.int .i64 (j.tries : Int)) ∧ w'.cell? ⟨p6, 6, none⟩ = some (.string (bytesOf j.work)) ∧ w'.cell? ⟨p6, 7, none⟩ = some (.string (bytesOf j.point)) ∧ w'.cell? ⟨p6, 8, none⟩ = some (.string (bytesOf j.result))) (by kernel_rfl) ⟨q1, q3, d0, d1, d2, d3, d4, d5, d6, d7, d8, e0, e1, e2, e3, e4, e5, e6, e7, e8⟩ (fun hS => ?_)
 clear q1 q3 d0 d1 d2 d3 d4 d5 d6 d7 d8 e0 e1 e2 e3 e4 e5 e6 e7 e8
 have HB7 := Lib.hid HB6.out.drew
 have HK7 := Lib.hid HK6.out.drew
 have HL7 := Lib.hid HL6.out.drew
 have HR17 := Lib.hid (show W6.drew.reads W6.drew.heap.size _ _ from HR16.out.drew)
 have HR27 := Lib.hid (show W6.drew.reads W6.drew.heap.size _ _ from HR26.out.drew)
 clear HB6 HK6 HL6 HR16 HR26
 refine tkH 0 (v := ?_) rfl ?_ ?_
 rotate_left
 ·(intro wq hSq; (try dsimp only at hSq); go_simp; try with_reducible rfl)
 try simp only [q0P, q0Q, q0R, q0S]
 refine tkH 1 (v := ?_) rfl ?_ ?_
 rotate_left
 ·(intro wq hSq; (try dsimp only at hSq); go_simp; try with_reducible rfl)
 try simp only [q0P, q0Q, q0R, q0S]
 refine tkH 2 (v := ?_) rfl ?_ ?_
 rotate_left
 ·(intro wq hSq; (try dsimp only at hSq); go_simp; try with_reducible rfl)
 try simp only [q0P, q0Q, q0R, q0S]
 refine tkH 3 (v := ?_) rfl ?_ ?_
 rotate_left
 ·(intro wq hSq; (try dsimp only at hSq); go_simp; try with_reducible rfl)
 try simp only [q0P, q0Q, q0R, q0S]
 refine tkH 5 (v := ?_) rfl ?_ ?_
 rotate_left
 ·(intro wq hSq; (try dsimp only at hSq); go_simp; try with_reducible rfl)
 try simp only [q0P, q0Q, q0R, q0S]
 refine tkH 6 (v := ?_) rfl ?_ ?_
 rotate_left
 ·(intro wq hSq; (try dsimp only at hSq); go_simp; try with_reducible rfl)
 try simp only [q0P, q0Q, q0R, q0S]
 refine tkH 7 (v := ?_) rfl ?_ ?_
 rotate_left
 ·(intro wq hSq; (try dsimp only at hSq); go_simp; try with_reducible rfl)
 try simp only [q0P, q0Q, q0R, q0S]
 refine tkH 8 (v := ?_) rfl ?_ ?_
 rotate_left
 ·(intro wq hSq; (try dsimp only at hSq); go_simp; try with_reducible rfl)
 try simp only [q0P, q0Q, q0R, q0S]
 refine wpAnyH_stepL 4 (by kernel_rfl) rfl (fun K hK => ?_)
 go_simp
 go_at_call 17
 refine (List_did P v x _ HB7.out.xa).mono ?_
 rintro e w7 ⟨⟨s7, rfl, hs7⟩, hb7⟩
 have HB8 := Lib.hid (HB7.out.below hb7)
 have HK8 := Lib.hid (HK7.out.below hb7)
 have HL8 := Lib.hid (HL7.out.below hb7)
 have HR18 := Lib.hid ((HR17.out.below hb7).mono hb7.size)
 have HR28 := Lib.hid ((HR27.out.below hb7).mono hb7.size)
 have HS8 := Lib.hid hs7
 obtain ⟨⟨-, q1, -, q3, -⟩, -⟩ := bo_cells HB8.out.bx.hp
 obtain ⟨d0, d1, d2, d3, d4, d5, d6, d7, d8⟩ := BoxAt.all (j := j) HK8.out.hp
 obtain ⟨e0, e1, e2, e3, e4, e5, e6, e7, e8⟩ := BoxAt.all (j := j) HL8.out.hp
 refine hK.out _ _ ⟨q1, q3, d0, d1, d2, d3, d4, d5, d6, d7, d8, e0, e1, e2, e3, e4, e5, e6, e7, e8⟩ (fun hS2 => ?_)
 clear hK K hS hs7 hb7 HB7 HK7 HL7 HR17 HR27
 clear q1 q3 d0 d1 d2 d3 d4 d5 d6 d7 d8 e0 e1 e2 e3 e4 e5 e6 e7 e8
 try simp only [q0P, q0Q, q0R, q0S]
 refine wpAnyH_stepL 9 (by kernel_rfl) rfl (fun K hK => ?_)
 go_simp
 go_at_call 48
 refine (rfList_did R u x _ HB8.out.ya).mono ?_
 rintro e w8 ⟨⟨s8, rfl, hs8⟩, hb8⟩
 have HB9 := Lib.hid (HB8.out.below hb8)
 have HK9 := Lib.hid (HK8.out.below hb8)
 have HL9 := Lib.hid (HL8.out.below hb8)
 have HR19 := Lib.hid ((HR18.out.below hb8).mono hb8.size)
 have HR29 := Lib.hid ((HR28.out.below hb8).mono hb8.size)
 have HS9 := Lib.hid (World.owns.mono (HS8.out.below hb8) (Nat.zero_le _))
 have HT9 := Lib.hid (World.owns.mono hs8 (Nat.zero_le _))
 obtain ⟨⟨-, q1, -, q3, -⟩, -⟩ := bo_cells HB9.out.bx.hp
 obtain ⟨d0, d1, d2, d3, d4, d5, d6, d7, d8⟩ := BoxAt.all (j := j) HK9.out.hp
 obtain ⟨e0, e1, e2, e3, e4, e5, e6, e7, e8⟩ := BoxAt.all (j := j) HL9.out.hp
 refine hK.out _ _ ⟨q1, q3, d0, d1, d2, d3, d4, d5, d6, d7, d8, e0, e1, e2, e3, e4, e5, e6, e7, e8⟩ (fun hS3 => ?_)
 clear hK K hS2 hs8 hb8 HB8 HK8 HL8 HR18 HR28 HS8
 clear q1 q3 d0 d1 d2 d3 d4 d5 d6 d7 d8 e0 e1 e2 e3 e4 e5 e6 e7 e8
 try simp only [q0P, q0Q, q0R, q0S]
 refine wpAnyH_stepL 10 (by kernel_rfl) rfl (fun K hK => ?_)
 go_simp
 go_at_call 47
 have HSM := same_any x.list x.list s7 s8 w8 HS9.out HT9.out HJL.out HJL.out
 rw [show sameB x.list x.list = true from decide_eq_true rfl] at HSM
 refine HSM.mono ?_
 rintro e w9 ⟨rfl, hb9⟩
 have HBa := Lib.hid (HB9.out.below hb9)
 have HKa := Lib.hid (HK9.out.below hb9)
 have HLa := Lib.hid (HL9.out.below hb9)
 have HR1a := Lib.hid ((HR19.out.below hb9).mono hb9.size)
 have HR2a := Lib.hid ((HR29.out.below hb9).mono hb9.size)
 obtain ⟨⟨-, q1, -, q3, -⟩, -⟩ := bo_cells HBa.out.bx.hp
 obtain ⟨d0, d1, d2, d3, d4, d5, d6, d7, d8⟩ := BoxAt.all (j := j) HKa.out.hp
 obtain ⟨e0, e1, e2, e3, e4, e5, e6, e7, e8⟩ := BoxAt.all (j := j) HLa.out.hp
 refine hK.out _ _ ⟨q1, q3, d0, d1, d2, d3, d4, d5, d6, d7, d8, e0, e1, e2, e3, e4, e5, e6, e7, e8⟩ (fun hS4 => ?_)
 clear hK K hS3 hb9 HB9 HK9 HL9 HR19 HR29 HS9 HT9 HSM
 clear q1 q3 d0 d1 d2 d3 d4 d5 d6 d7 d8 e0 e1 e2 e3 e4 e5 e6 e7 e8
 try simp only [q0P, q0Q, q0R, q0S]
 refine tkH 11 (v := ?_) rfl ?_ ?_
 rotate_left
 ·(intro wq hSq; (try dsimp only at hSq); go_simp; try with_reducible rfl)
 try simp only [q0P, q0Q, q0R, q0S]
 refine tkH 12 (v := ?_) rfl ?_ ?_
 rotate_left
 ·(intro wq hSq; (try dsimp only at hSq); go_simp; try with_reducible rfl)
 try simp only [q0P, q0Q, q0R, q0S]
 refine tkH 13 (v := ?_) rfl ?_ ?_
 rotate_left
 ·(intro wq hSq; (try dsimp only at hSq); go_simp; try with_reducible rfl)
 try simp only [q0P, q0Q, q0R, q0S]
 refine wpAnyH_stepL 14 (by kernel_rfl) rfl (fun K hK => ?_)
 go_simp
 go_at_call 49
 have HSM := SameT_any x.d.texts x.d.texts HTL.out _ _ w9 HR1a.out HR2a.out
 rw [decide_eq_true (show x.d.texts = x.d.texts from rfl)] at HSM
 refine HSM.mono ?_
 rintro e wa ⟨rfl, hba⟩
 have HBb := Lib.hid (HBa.out.below hba)
 have HKb := Lib.hid (HKa.out.below hba)
 have HLb := Lib.hid (HLa.out.below hba)
 obtain ⟨⟨-, q1, -, q3, -⟩, -⟩ := bo_cells HBb.out.bx.hp
 obtain ⟨d0, d1, d2, d3, d4, d5, d6, d7, d8⟩ := BoxAt.all (j := j) HKb.out.hp
 obtain ⟨e0, e1, e2, e3, e4, e5, e6, e7, e8⟩ := BoxAt.all (j := j) HLb.out.hp
 refine hK.out _ _ ⟨q1, q3, d0, d1, d2, d3, d4, d5, d6, d7, d8, e0, e1, e2, e3, e4, e5, e6, e7, e8⟩ (fun hS5 => ?_)
 clear hK K hS4 hba HBa HKa HLa HR1a HR2a HSM
 clear q1 q3 d0 d1 d2 d3 d4 d5 d6 d7 d8 e0 e1 e2 e3 e4 e5 e6 e7 e8
 try simp only [q0P, q0Q, q0R, q0S]
 refine tkH 15 (v := ?_) rfl ?_ ?_
 rotate_left
 ·(intro wq hSq; (try dsimp only at hSq); go_simp; try with_reducible rfl)
 try simp only [q0P, q0Q, q0R, q0S]
 refine tkH 16 (v := ?_) rfl ?_ ?_
 rotate_left
 ·(intro wq hSq; (try dsimp only at hSq); go_simp; try with_reducible rfl)
 try simp only [q0P, q0Q, q0R, q0S]
 refine tkH 17 (v := ?_) rfl ?_ ?_
 rotate_left
 ·(intro wq hSq; (try dsimp only at hSq); go_simp; try with_reducible rfl)
 try simp only [q0P, q0Q, q0R, q0S]
 refine tkH 18 (v := ?_) rfl ?_ ?_
 rotate_left
 ·(intro wq hSq; (try dsimp only at hSq); go_simp; try with_reducible rfl)
 try simp only [q0P, q0Q, q0R, q0S]
 refine tkH 19 (v := ?_) rfl ?_ ?_
 rotate_left
 ·(intro wq hSq; (try dsimp only at hSq); go_simp; try with_reducible rfl)
 try simp only [q0P, q0Q, q0R, q0S]
 refine tkH 20 (v := ?_) rfl ?_ ?_
 rotate_left
 ·(intro wq hSq; (try dsimp only at hSq); go_simp; try with_reducible rfl)
 try simp only [q0P, q0Q, q0R, q0S]
 refine tkH 21 (v := ?_) rfl ?_ ?_
 rotate_left
 ·(intro wq hSq; (try dsimp only at hSq); go_simp; try with_reducible rfl)
 try simp only [q0P, q0Q, q0R, q0S]
 refine tkH 22 (v := ?_) rfl ?_ ?_
 rotate_left
 ·(intro wq hSq; (try dsimp only at hSq); go_simp; try with_reducible rfl)
 try simp only [q0P, q0Q, q0R, q0S]
 refine tkH 23 (v := ?_) rfl ?_ ?_
 rotate_left
 ·(intro wq hSq; (try dsimp only at hSq); go_simp; try with_reducible rfl)
 try simp only [q0P, q0Q, q0R, q0S]
 refine tkH 24 (v := ?_) rfl ?_ ?_
 rotate_left
 ·(intro wq hSq; (try dsimp only at hSq); go_simp; try with_reducible rfl)
 try simp only [q0P, q0Q, q0R, q0S]
 refine tkH 25 (v := ?_) rfl ?_ ?_
 rotate_left
 ·(intro wq hSq; (try dsimp only at hSq); go_simp; try with_reducible rfl)
 try simp only [q0P, q0Q, q0R, q0S]
 refine tkH 26 (v := ?_) rfl ?_ ?_
 rotate_left
 ·(intro wq hSq; (try dsimp only at hSq); go_simp; try with_reducible rfl)
 try simp only [q0P, q0Q, q0R, q0S]
 refine tkH 27 (v := ?_) rfl ?_ ?_
 rotate_left
 ·(intro wq hSq; (try dsimp only at hSq); go_simp; try with_reducible rfl)
 try simp only [q0P, q0Q, q0R, q0S]
 refine tkH 28 (v := ?_) rfl ?_ ?_
 rotate_left
 ·(intro wq hSq; (try dsimp only at hSq); go_simp; try with_reducible rfl)
 try simp only [q0P, q0Q, q0R, q0S]
 refine tkH 29 (v := ?_) rfl ?_ ?_
 rotate_left
 ·(intro wq hSq; (try dsimp only at hSq); go_simp; try with_reducible rfl)
 try simp only [q0P, q0Q, q0R, q0S]
 refine tkH 30 (v := ?_) rfl ?_ ?_
 rotate_left
 ·(intro wq hSq; (try dsimp only at hSq); go_simp; try with_reducible rfl)
 try simp only [q0P, q0Q, q0R, q0S]
 refine tkH 31 (v := ?_) rfl ?_ ?_
 rotate_left
 ·(intro wq hSq; (try dsimp only at hSq); go_simp; try with_reducible rfl)
 try simp only [q0P, q0Q, q0R, q0S]
 refine wpAnyH_end (by kernel_rfl) ?_
 go_wp2_with fail
 go_ret
 exact ⟨rfl, HBb.out⟩
end
/- Walks: the reference's disk: a new one. -/
section
open Go.RowKit Go.Shelf
theorem rNew_any (n : Nat) (h64 : 64 ≤ n) (hmx : n ≤ 262144) (w : World) : Calls Tryz.prog 8 #[.int .i64 (n : Int)] w fun e w' =>
  (∃ p b, e = .returned (.tuple #[.pointer (some ⟨p, 0, none⟩), .int .i64 0]) ∧ RDiskAt w' p b (newDk n) ∧ w.heap.size ≤ p ∧ w.heap.size ≤ b) ∧ Below w.heap.size w w' := by
 obtain ⟨D, hD⟩ : ∃ D, D = 2 * n := ⟨_, rfl⟩
 have hmul : (2 : Int) * (n : Int) = (D : Int) := by omega
 have hDb : D ≤ 600000 := by omega
 have hD17 : 17 ≤ D := by omega
 have hmk : ∀ W : World, (Instr.makeSlice 54 (.int .i64 (D : Int)) (.int .i64 (D : Int))).run Tryz.prog W = .ok (.slice (some ⟨W.heap.size, 0, none⟩) D D) (W.alloc (.cells (zrow8 D) 5)) := fun W => make_u8 D D (Nat.le_refl _) (by omega) W
 have HD := Lib.hid hD
 clear hD
 go_enter Tryz.func8, Tryz.ntmps8
 go_wp2_with fail
 obtain ⟨W2, hW2e⟩ : ∃ W2, W2 = ((w.alloc (.cells (zrow8 D) 5)).alloc (.cells #[.int .i64 (n : Int), .slice (some ⟨w.heap.size, 0, none⟩) D D, .int .i64 (-1), .bool false] 62)) := ⟨_, rfl⟩
 have hB2 : Below w.heap.size w W2 := by rw [hW2e]; exact ((Below.refl _ w).alloc (Nat.le_refl _) _).alloc (by simp) _
 have g2 : W2.heap[w.heap.size + 1]? = some (.cells #[.int .i64 (n : Int), .slice (some ⟨w.heap.size, 0, none⟩) D D, .int .i64 (-1), .bool false] 62) := by
  rw [hW2e]; exact alloc_last _ _ (by simp)
 have ga : W2.heap[w.heap.size]? = some (.cells (zrow8 D) 5) := by
  rw [hW2e, Below.heap_alloc _ _ _ (by simp)]; exact alloc_last _ _ rfl
 rw [← hW2e]
 clear hW2e
 obtain ⟨p, hp⟩ : ∃ p, p = w.heap.size + 1 := ⟨_, rfl⟩
 obtain ⟨b, hb⟩ : ∃ p, p = w.heap.size := ⟨_, rfl⟩
 rw [← hp, ← hb] at g2
 rw [← hb] at ga
 rw [← hp]
 have hl2 : p < W2.heap.size := lt_of_heap g2
 have hlb : b < W2.heap.size := lt_of_heap ga
 have k0 := (four_cells g2).2.1
 have HP := Lib.hid hp
 have HB := Lib.hid hb
 clear hp hb
 refine wp_region_heldL (fun w' => w'.cell? ⟨p, 1, none⟩ = some (.slice (some ⟨b, 0, none⟩) D D)) (by kernel_rfl) k0 (fun hS => ?_)
 refine tkH 0 (v := ?_) rfl ?_ ?_
 rotate_left
 ·(intro wq hSq; (try dsimp only at hSq); go_simp; try with_reducible rfl)
 try simp only [q0P, q0Q, q0R, q0S]
 refine tkH 1 (v := ?_) rfl ?_ ?_
 rotate_left
 ·(intro wq hSq; (try dsimp only at hSq); go_simp; try with_reducible rfl)
 try simp only [q0P, q0Q, q0R, q0S]
 refine tkH 2 (v := ?_) rfl ?_ ?_
 rotate_left
 ·(intro wq hSq; (try dsimp only at hSq); go_simp; try with_reducible rfl)
 try simp only [q0P, q0Q, q0R, q0S]
 refine tkH 3 (v := ?_) rfl ?_ ?_
 rotate_left
 ·(intro wq hSq; (try dsimp only at hSq); go_simp; try with_reducible rfl)
 try simp only [q0P, q0Q, q0R, q0S]
 refine wpAnyH_stepL 4 (by kernel_rfl) rfl (fun K hK => ?_)
 go_simp
 go_at_call 20
 refine (reight_any 1 (by omega) _).mono ?_
 rintro e w3 ⟨rfl, hb3d⟩
 have hb3 : Below W2.heap.size W2 w3 := ((Below.refl _ W2).drew).trans hb3d
 refine hK.out _ _ ((hb3.cell (p := ⟨p, 1, none⟩) hl2).trans k0) (fun hS3 => ?_)
 clear hK K hS
 try simp only [q0P, q0Q, q0R, q0S]
 have a3 := bytesOf_append
 have x1 : (bytesOf (1 :: eightL 1)).size = 9 := by show (1 :: eightL 1).length = 9; rw [List.length_cons, eightL_length]
 have x0 : (⟨#[1]⟩ : ByteArray) ++ bytesOf (eightL 1) = bytesOf (1 :: eightL 1) := bytesOf_append [1] _
 have x2 : (⟨#[1]⟩ : ByteArray).size = 1 := rfl
 have x3 : (bytesOf (eightL 1)).size = 8 := eight_size 1
 refine tkH 5 (v := ?_) rfl ?_ ?_
 rotate_left
 ·(intro wq hSq; (try dsimp only at hSq); go_simp; try with_reducible rfl)
 try simp only [q0P, q0Q, q0R, q0S]
 refine wpAnyH_stepL 6 (by kernel_rfl) rfl (fun K hK => ?_)
 go_simp
 go_at_call 20
 refine (reight_any 1 (by omega) _).mono ?_
 rintro e w4 ⟨rfl, hb4d⟩
 have hb4 : Below W2.heap.size W2 w4 := hb3.trans (hb4d.mono hb3.size)
 refine hK.out _ _ ((hb4.cell (p := ⟨p, 1, none⟩) hl2).trans k0) (fun hS4 => ?_)
 clear hK K hS3
 try simp only [q0P, q0Q, q0R, q0S]
 refine wpAnyH_stepL 7 (by kernel_rfl) rfl (fun K hK => ?_)
 go_simp
 go_at_call 21
 refine (refShortN_any (eightL 1) (by rw [eightL_length]; omega) _).mono ?_
 rintro e w5 ⟨rfl, hb5d⟩
 have hb5 : Below W2.heap.size W2 w5 := hb4.trans (hb5d.mono hb4.size)
 refine hK.out _ _ ((hb5.cell (p := ⟨p, 1, none⟩) hl2).trans k0) (fun hS5 => ?_)
 clear hK K hS4
 try simp only [q0P, q0Q, q0R, q0S]
 have x4 : (bytesOf (shortL (eightL 1))).size = 8 := shortL_length _
 refine tkH 8 (v := ?_) rfl ?_ ?_
 rotate_left
 ·(intro wq hSq; (try dsimp only at hSq); go_simp; try with_reducible rfl)
 try simp only [q0P, q0Q, q0R, q0S]
 refine wpAnyH_stepL 9 (by kernel_rfl) rfl (fun K hK => ?_)
 refine step_copy_half rfl (.tmp 20) (.tmp 25) 9 rfl b D (List.replicate D 0) newHead rfl rfl ((hb5.block _ hlb).trans ga) (by simp) (by rw [newHead_length]; omega) ?_
 intro w6 hg6 hk6
 have hn02 : ¬ p = b := by have := HP.out; have := HB.out; omega
 have q2 : w6.heap[p]? = some (.cells #[.int .i64 (n : Int), .slice (some ⟨b, 0, none⟩) D D, .int .i64 (-1), .bool false] 62) := (hk6.block _ (Nat.lt_of_lt_of_le hl2 hb5.size) hn02).trans ((hb5.block _ hl2).trans g2)
 have hB6 : Below w.heap.size w w6 := (hB2.trans (hb5.mono hB2.size)).trans (hk6.below (by have := hB2.size; have := hb5.size; omega) (fun k e => by have := HB.out; subst e; omega))
 refine hK.out _ _ (four_cells q2).2.1 (fun hS6 => ?_)
 clear hK K hS5
 try simp only [q0P, q0Q, q0R, q0S]
 refine wpAnyH_end (by kernel_rfl) ?_
 have HB6 := Lib.hid hB6
 clear k0 ga g2 hB2 hb3d hb4d hb5d hb3 hb4 hb5 hk6 hB6
 go_wp2
 go_ret2
 refine ⟨⟨p, b, rfl, ⟨?_, ⟨5, ?_⟩, fun e => hn02 e.symm⟩, by have := HP.out; omega, by have := HB.out; omega⟩, HB6.out⟩
 ·rw [HD.out] at q2; exact q2
 ·rw [hg6, newHead_length, List.drop_replicate]
  show _ = some (Obj.cells (List.map byteV ((newHead ++ List.replicate (n - 17) 0) ++ List.replicate n 0)).toArray _)
  rw [List.append_assoc, List.replicate_append_replicate, show D - 17 = n - 17 + n by have := HD.out; omega]
end
/- What the reading of an argument tells of its value. -/
/- What the reading of an argument tells of its value: slices of integers, and slices of these. -/
end Go.Proofs.YtoggmplkbiidhaaGreatDoor
namespace Go
open RowKit ChangeShapes
section
variable {H : Type} {enc : TypeId × Value → H} {P : Program} {w : World} {held : Bool} {fuel : Nat} {t e q : TypeId} {cs : List Value} {x : DataW H × List MemPlace}
theorem addr_none {a : Addr} {v : Value} {w : World} (h : w.cell? (a.add 0) = some v) : ∃ b off, a = ⟨b, off, none⟩ ∧ b < w.heap.size := by
 obtain ⟨b, off, spot⟩ := a
 obtain rfl : spot = none := by
  have := World.cell?_spot h
  simpa [Addr.add] using this
 exact ⟨b, off, rfl, by have := World.block_lt_of_cell? w _ h; simpa [Addr.add] using this⟩
theorem add_none (b off j : Nat) : (⟨b, off, none⟩ : Addr).add j = ⟨b, off + j, none⟩ := by unfold Addr.add; split <;> simp_all
/-- A field of a struct. -/
theorem trod_field {fs : Array Field} (ht : P.underlying t = some (.struct fs)) (h : DataW.trod enc P w 0 (fun _ => true) held fuel t cs = some x) (j : Nat) (f : Field) (hj : fs[j]? = some f) :
  ∃ n y, DataW.trod enc P w 0 (fun _ => true) held n f.type ((cs.drop f.offset).take (P.cellsOf f.type)) = some y := by
 obtain ⟨xs, m, rfl, hx, hl, hlen, hget⟩ := DataW.trod_struct ht h
 have hj' := (Array.getElem?_eq_some_iff.1 hj).1
 exact ⟨m, _, (hget j f hj).trans (List.getElem?_eq_getElem (by omega))⟩
end
end Go
