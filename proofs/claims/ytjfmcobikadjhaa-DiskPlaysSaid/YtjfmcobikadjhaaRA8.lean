/- Walks: the reference's disk: its records and its size. -/
import Derived.Test.YtjfmcobikadjhaaRA7
namespace Go.Proofs.Ytjfmcobikadjhaa
set_option linter.all false
open Go.RowKit Go.Shelf
/-- The active half's number. -/
theorem act_hf {d : Dk} (half : Nat) (h : d.half = (half : Int)) (hh : half ≤ 1) : d.act = d.hf half := by
  unfold Dk.act Dk.hf
  rw [h]
  rcases (show half = 0 ∨ half = 1 by omega) with rfl | rfl <;> rfl
theorem half_nat {d : Dk} : d.half = -1 ∨ ∃ half : Nat, d.half = (half : Int) ∧ half ≤ 1 := by
  rcases d.half_cases with h | h | h
  · exact .inl h
  · exact .inr ⟨0, h, by omega⟩
  · exact .inr ⟨1, h, by omega⟩
set_option maxRecDepth 100000 in
set_option maxHeartbeats 4000000 in
theorem rRecords_any (p b : Nat) (d : Dk) (w : World) (hd : RDiskAt w p b d) (ho : d.ok) :
    Calls Try.prog 40 #[.pointer (some ⟨p, 0, none⟩)] w fun e w' => (∃ v, e = .returned (.tuple #[v, .int .i64 d.seenErr]) ∧ w'.reads w'.heap.size v (d.texts.map strV) ∧ (∀ k, v.ownBlock = some k → w.heap.size ≤ k)) ∧ Below w.heap.size w w' := by
  have HACT := Lib.hid (ractive_any p b d w hd ho)
  have HREC := Lib.hid (fun (half : Nat) (hh : half ≤ 1) W (h : RDiskAt W p b d) => rrecords_any p b half d.gen hh d.gen_lt d W h ho)
  obtain ⟨x, hx⟩ : ∃ x, x = d.half := ⟨_, rfl⟩
  obtain ⟨y, hy⟩ : ∃ y, y = d.gen := ⟨_, rfl⟩
  obtain ⟨r, hr⟩ : ∃ r, r = d.seenErr := ⟨_, rfl⟩
  rw [← hx, ← hy] at HACT
  rw [← hy] at HREC
  rw [← hr]
  have HX := Lib.hid hx
  have HY := Lib.hid hy
  have HR := Lib.hid hr
  have HD := Lib.hid hd
  have hc := half_nat (d := d)
  rw [← hx] at hc
  clear hx hy hr hd ho
  go_enter Try.func40, Try.ntmps40
  go_wp2_with fail
  refine HACT.out.mono ?_
  rintro e w2 ⟨rfl, hb2⟩
  have HD2 := Lib.hid (HD.out.kept hb2)
  have hz2 := hb2.size
  rcases hc with rfl | ⟨half, rfl, hh⟩
  · obtain rfl : r = 4 := by rw [HR.out]; unfold Dk.seenErr; rw [← HX.out]; rfl
    have ht : Hid (d.texts = []) := by show _ = _; unfold Dk.texts; rw [← HX.out]; rfl
    go_wp2
    go_ret2
    refine ⟨⟨_, rfl, ?_, fun k e => by simp [Value.ownBlock] at e⟩, hb2⟩
    rw [ht.out]
    exact reads_nil _ _
  · have hneg : ¬ (half : Int) < 0 := by omega
    obtain rfl : r = 0 := by rw [HR.out]; unfold Dk.seenErr; rw [← HX.out, if_neg hneg]
    have ht : Hid (d.texts = (recs (d.hf half) y).map (·.2)) := by show _ = _; unfold Dk.texts; rw [← HX.out, if_neg hneg, act_hf half HX.out.symm hh, HY.out]
    go_wp2_with fail
    refine (HREC.out half hh _ HD2.out).mono ?_
    rintro e w3 ⟨⟨v, rfl, hr3, hv3⟩, hb3⟩
    have HR3 := Lib.hid hr3
    have HV3 := Lib.hid hv3
    clear hr3 hv3
    go_wp2
    go_ret2
    refine ⟨⟨_, rfl, ?_, fun k e => Nat.le_trans hz2 (HV3.out k e)⟩, hb2.trans (hb3.mono hz2)⟩
    rw [ht.out]
    exact HR3.out
set_option maxRecDepth 100000 in
set_option maxHeartbeats 4000000 in
theorem rSize_any (p b : Nat) (d : Dk) (w : World) (hd : RDiskAt w p b d) (ho : d.ok) :
    Calls Try.prog 41 #[.pointer (some ⟨p, 0, none⟩)] w fun e w' => e = .returned (.tuple #[.int .i64 (d.size : Int), .int .i64 (d.used : Int)]) ∧ Below w.heap.size w w' := by
  have HACT := Lib.hid (ractive_any p b d w hd ho)
  have HREC := Lib.hid (fun (half : Nat) (hh : half ≤ 1) W (h : RDiskAt W p b d) => rrecords_any p b half d.gen hh d.gen_lt d W h ho)
  obtain ⟨x, hx⟩ : ∃ x, x = d.half := ⟨_, rfl⟩
  obtain ⟨y, hy⟩ : ∃ y, y = d.gen := ⟨_, rfl⟩
  obtain ⟨u, hu⟩ : ∃ u, u = d.used := ⟨_, rfl⟩
  rw [← hx, ← hy] at HACT
  rw [← hy] at HREC
  rw [← hu]
  have HX := Lib.hid hx
  have HY := Lib.hid hy
  have HU := Lib.hid hu
  have HD := Lib.hid hd
  have hc := half_nat (d := d)
  rw [← hx] at hc
  clear hx hy hu hd ho
  go_enter Try.func41, Try.ntmps41
  go_wp2_with fail
  refine HACT.out.mono ?_
  rintro e w2 ⟨rfl, hb2⟩
  have HD2 := Lib.hid (HD.out.kept hb2)
  have hz2 := hb2.size
  obtain ⟨k0, -, -, -, -, -⟩ := four_cells HD2.out.at_
  rcases hc with rfl | ⟨half, rfl, hh⟩
  · obtain rfl : u = 0 := by rw [HU.out]; unfold Dk.used; rw [← HX.out]; rfl
    go_wp2
    go_ret2
    exact ⟨rfl, hb2⟩
  · have hneg : ¬ (half : Int) < 0 := by omega
    have hue : Hid (u = endR (d.hf half) y) := by show _ = _; rw [HU.out]; unfold Dk.used; rw [← HX.out, if_neg hneg, act_hf half HX.out.symm hh, HY.out]
    have HC := Lib.hid (HREC.out half hh w2 HD2.out)
    rw [← hue.out] at HC
    go_wp2_with fail
    refine HC.out.mono ?_
    rintro e w3 ⟨⟨v, rfl, -, -⟩, hb3⟩
    have hd3 := HD2.out.kept hb3
    clear k0
    obtain ⟨k0, -, -, -, -, -⟩ := four_cells hd3.at_
    clear hd3
    go_wp2
    go_ret2
    exact ⟨rfl, hb2.trans (hb3.mono hz2)⟩
end Go.Proofs.Ytjfmcobikadjhaa
