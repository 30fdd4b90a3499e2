/- Laws of the disk: what is seen of both disks. -/
import Derived.Test.YtjfmcobikadjhaaRB4
import Derived.Test.YtjfmcobikadjhaaDL6
namespace Go.Proofs.Ytjfmcobikadjhaa
set_option linter.all false
open Go.RowKit Go.Shelf
theorem recs_count (d : Dk) (ho : d.ok) : d.texts.length ≤ 262144 := by
  unfold Dk.texts
  split
  · simp
  · rw [List.length_map]
    have h1 := recF_length d.act d.gen d.act.length 17
    have h2 := act_length ho
    have h3 := ho.hi
    unfold recs
    omega
set_option maxRecDepth 100000 in
set_option maxHeartbeats 4000000 in
theorem alike_any (p b0 b1 rp rb : Nat) (d : Dk) (w : World) (hd : DiskAt w p b0 b1 d) (hr : RDiskAt w rp rb d) (ho : d.ok) :
    Calls Try.prog 21 #[.pointer (some ⟨p, 0, none⟩), .pointer (some ⟨rp, 0, none⟩)] w fun e w' => e = .returned (.bool true) ∧ Below w.heap.size w w' := by
  have HD := Lib.hid hd
  have HR := Lib.hid hr
  have HO := Lib.hid ho
  obtain ⟨er, her⟩ : ∃ e, e = d.seenErr := ⟨_, rfl⟩
  obtain ⟨us, hus⟩ : ∃ e, e = d.used := ⟨_, rfl⟩
  obtain ⟨fl, hfl⟩ : ∃ e, e = d.failed := ⟨_, rfl⟩
  have HER := Lib.hid her
  have HUS := Lib.hid hus
  have HFL := Lib.hid hfl
  have HTL : Hid (d.texts.length ≤ 9223372036854775807) := by have := recs_count d ho; show _ ≤ _; omega
  clear hd hr ho her hus hfl
  go_enter Try.func21, Try.ntmps21
  go_wp2_with fail
  refine (Records_any p b0 b1 d _ HD.out HO.out).mono ?_
  rintro e w2 ⟨⟨v, he, hr2, -⟩, hb2⟩
  rw [← HER.out] at he
  subst he
  have HR2 := Lib.hid hr2
  obtain ⟨va, vc, rfl, -, -, -, -⟩ := hr2
  obtain ⟨L2, hL2⟩ : ∃ L, L = (d.texts.map strV).length := ⟨_, rfl⟩
  rw [← hL2] at HR2 ⊢
  clear hL2
  go_wp2_with fail
  refine (rRecords_any rp rb d _ (HR.out.kept hb2) HO.out).mono ?_
  rintro e w3 ⟨⟨v, he, hr3, -⟩, hb3⟩
  rw [← HER.out] at he
  subst he
  have HR3 := Lib.hid hr3
  obtain ⟨ua, uc, rfl, -, -, -, -⟩ := hr3
  obtain ⟨L3, hL3⟩ : ∃ L, L = (d.texts.map strV).length := ⟨_, rfl⟩
  rw [← hL3] at HR3 ⊢
  clear hL3
  have hB3 : Below w.heap.size w w3 := hb2.trans (hb3.mono hb2.size)
  have HR23 := Lib.hid ((HR2.out.below hb3).mono hb3.size)
  clear hb2 hb3 HR2
  go_wp2_with fail
  refine (Size_any p b0 b1 d _ (HD.out.kept hB3) HO.out).mono ?_
  rintro e w4 ⟨rfl, hb4⟩
  rw [← HUS.out]
  have hB4 := hB3.trans (hb4.mono hB3.size)
  have HR24 := Lib.hid ((HR23.out.below hb4).mono hb4.size)
  have HR34 := Lib.hid ((HR3.out.below hb4).mono hb4.size)
  clear hB3 hb4 HR23 HR3
  go_wp2_with fail
  refine (rSize_any rp rb d _ (HR.out.kept hB4) HO.out).mono ?_
  rintro e w5 ⟨rfl, hb5⟩
  rw [← HUS.out]
  have hB5 := hB4.trans (hb5.mono hB4.size)
  have HR25 := Lib.hid ((HR24.out.below hb5).mono hb5.size)
  have HR35 := Lib.hid ((HR34.out.below hb5).mono hb5.size)
  clear hB4 hb5 HR24 HR34
  go_wp2_with fail
  refine (SameT_any d.texts d.texts HTL.out _ _ _ HR25.out HR35.out).mono ?_
  rintro e w6 ⟨he, hb6⟩
  rw [decide_eq_true rfl] at he
  subst he
  have hB6 := hB5.trans (hb6.mono hB5.size)
  have t1 : (er == er) = true := by simp
  have t2 : (us == us) = true := by simp
  clear hB5 hb6 HR25 HR35
  go_wp2_with fail
  refine (Failed_any p b0 b1 d _ (HD.out.kept hB6)).mono ?_
  rintro e w7 ⟨he, rfl⟩
  rw [← HFL.out] at he
  subst he
  go_wp2_with fail
  refine (rFailed_any rp rb d _ (HR.out.kept hB6)).mono ?_
  rintro e w8 ⟨he, rfl⟩
  rw [← HFL.out] at he
  subst he
  have t3 : (fl == fl) = true := by simp
  go_wp2
  go_ret
  exact ⟨rfl, hB6⟩
end Go.Proofs.Ytjfmcobikadjhaa
