/- Laws of the jobs: the order in which jobs are taken; what is ended stays. Printed by gen_lj5.py. -/
import Derived.Test.YtoggmplkbiidhaaDoorPX4
namespace Go.Proofs.YtoggmplkbiidhaaDoor
set_option linter.all false
open Go.RowKit Go.Shelf
set_option maxRecDepth 100000 in
set_option maxHeartbeats 8000000 in
theorem order_law (l : List JAct) (a : Option Addr) (cap : Nat) (hl : l.length ≤ maxLen) (w : World) (h : JActsAt w w.heap.size a l) (ht : TabAt w) :
    Calls Tryd.prog 3 #[.slice a l.length cap] w fun e w' => e = .returned (.bool true) ∧ Below w.heap.size w w' := by
  have HBY := Lib.hid (beyond_any l a cap hl w h)
  have HT := Lib.hid ht
  have HA := Lib.hid h
  obtain ⟨n, hn⟩ : ∃ n, n = l.length := ⟨_, rfl⟩
  rw [← hn] at HBY hl ⊢
  have HN := Lib.hid hn
  cases hby : beyondB l with
  | true =>
    rw [hby] at HBY
    have HSH := Lib.hid (shown_any w ht)
    clear hby hn h ht
    go_enter Tryd.func3, Tryd.ntmps3
    go_wp2_with fail
    refine HBY.out.mono ?_
    rintro e w1 ⟨rfl, rfl⟩
    go_wp2_with fail
    refine HSH.out.mono ?_
    rintro e w2 ⟨rfl, hb2⟩
    go_wp2_with fail
    go_ret
    exact ⟨rfl, hb2⟩
  | false =>
    rw [hby] at HBY
    have hn80 : n ≤ 80 := by
      unfold beyondB at hby
      simp at hby
      omega
    obtain ⟨-, ho⟩ := show_new
    have hok : (newDk 4000).ok := (newDk_post 4000 (by omega) (by omega)).1.ok
    have HNW := Lib.hid (New_any 4000 (by omega) (by omega) w)
    have HOK := Lib.hid hok
    have HO := Lib.hid ho
    clear hby hn h ht hok ho hl
    go_enter Tryd.func3, Tryd.ntmps3
    go_wp2_with fail
    refine HBY.out.mono ?_
    rintro e w1 ⟨rfl, rfl⟩
    go_wp2_with fail
    refine (show Calls Tryd.prog 8 #[.int .i64 4000] w1 _ from HNW.out).mono ?_
    rintro e wa ⟨⟨dp, b0, b1, rfl, hd, hp1, hp2, hp3⟩, hba⟩
    have HOP := Lib.hid (Open_any dp b0 b1 (newDk 4000) wa hd HOK.out (HT.out.block (hba.block _ HT.out.lt)))
    have HBA := Lib.hid hba
    have HPP : Hid (w1.heap.size ≤ dp ∧ w1.heap.size ≤ b0 ∧ w1.heap.size ≤ b1) := Lib.hid ⟨hp1, hp2, hp3⟩
    rw [HO.out] at HOP
    clear hd hba hp1 hp2 hp3 HNW HBY
    go_wp2_with fail
    refine HOP.out.mono ?_
    rintro e wb ⟨hop, hbb⟩
    unfold OpenP at hop
    dsimp only at hop
    obtain ⟨p, v, rfl, hpp, hqd, hvv⟩ := hop
    have HO1 : Hid (Ord w1.heap.size ⟨p, dp, b0, b1⟩ v ⟨⟨[], 0⟩, newDk 4000, false⟩ w1 wb) := Lib.hid ⟨hqd, show_new.1.up, HBA.out.trans (hbb.mono HBA.out.size), fun k hm => by
      have hsz := HBA.out.size
      obtain ⟨h1, h2, h3⟩ := HPP.out
      rcases hm with e | e | e | e | e
      · have : k = p := e
        omega
      · have : k = dp := e
        omega
      · have : k = b0 := e
        omega
      · have : k = b1 := e
        omega
      · have := hvv k e; omega, Nat.le_trans HBA.out.size hbb.size⟩
    clear hbb hqd hpp hvv HOP HPP HBA
    go_wp2_with fail
    go_loopw [7, 8, 9, 10, 11, 12, 13, 14, 15, 16, 17, 18] (fun iv _ _ _ _ _ _ _ _ _ _ _ wr => ∃ (k : Nat) (x : Qst) (v : Value), k ≤ n ∧ iv = .int .i64 (k : Int) ∧ Hid (Ord w1.heap.size ⟨p, dp, b0, b1⟩ v x w1 wr)) (fun iv _ _ _ _ _ _ _ _ _ _ _ _ => n - (intOf iv).toNat)
    case atStart => exact ⟨0, _, _, Nat.zero_le _, rfl, HO1.out⟩
    case round =>
      clear HO1
      obtain ⟨k, x, v, hk, rfl, hO⟩ := hrel
      by_cases hlt : k < n
      · obtain ⟨ac, hac⟩ : ∃ ac, l[k]? = some ac := ⟨l[k]'(by rw [← HN.out]; exact hlt), List.getElem?_eq_getElem _⟩
        obtain ⟨ab, ao, hae, hab, -, -⟩ := HA.out k ac hac
        subst hae
        have HACT : Hid (∀ W, Below w1.heap.size w1 W → JActAt W ab (ao + k * 6) ac) := Lib.hid (fun W hW => by
          obtain ⟨b', o', h1, h2, h3, -⟩ := HA.out k ac hac
          injection h1 with h1
          injection h1 with h1 h4
          subst h1 h4
          exact h3.below hW h2)
        have HL := Lib.hid (List_did ⟨p, dp, b0, b1⟩ v x wr hO.out.qd)
        have hlen := hO.out.qd.fine.ok.len
        obtain ⟨wo, hwo⟩ : ∃ y, y = wr := ⟨_, rfl⟩
        subst hwo
        obtain ⟨m, hm⟩ : ∃ m, m = ac.what % 14 := ⟨_, rfl⟩
        have hmi : ((ac.what : Int)).tmod 14 = (m : Int) := by
          rw [hm, Int.tmod_eq_emod_of_nonneg (by omega)]; omega
        have hmi2 : (ac.what : Int) % 14 = (m : Int) := by omega
        have HM := Lib.hid hm
        clear hac hm
        go_wp2_with fail
        refine HL.out.mono ?_
        rintro e wc ⟨⟨u, rfl, hu⟩, hbc⟩
        rw [list_up hO.out.up] at hu
        have HOc := Lib.hid (hO.out.below hbc)
        have HAS := Lib.hid (aside_new (v := v) hO.out.qd hu)
        obtain ⟨ua, uc, rfl⟩ : ∃ a c, u = .slice a x.q.jobs.length c := by
          rcases hu.2 with ⟨e, h0⟩ | ⟨g, c, _, _, e, _⟩
          · exact ⟨none, 0, by rw [e, h0]⟩
          · exact ⟨_, c, e⟩
        obtain ⟨c0, c1, c2, c3, c4, c5⟩ := HACT.out wc HOc.out.bl
        clear hu hbc HL hO
        by_cases hm2 : m = 2
        case neg =>
          have hm2' : ((m : Int) == 2) = false := by rw [beq_eq_false_iff_ne]; omega
          as_aux_lemma =>
            have HC := Lib.hid (call_any ⟨p, dp, b0, b1⟩ v x ac wc HOc.out.qd)
            have KP := call_kept HOc.out.up ac
            have HF := Lib.hid HOc.out.up.fine
            obtain ⟨x2, hx2⟩ : ∃ x2, x2 = (x.call ac).2 := ⟨_, rfl⟩
            rw [← hx2] at HC KP
            have HKP := Lib.hid KP
            have hlen2 := KP.up.fine.ok.len
            have hl1 := KP.len1
            have hl2 := KP.len2
            unfold JAct.val at HC
            clear hx2 KP
            go_wp2_with fail
            refine HC.out.mono ?_
            rintro e wd ⟨rfl, v2, hq2, hs2⟩
            have HOd := Lib.hid (HOc.out.stp hq2 hs2 HKP.out.up)
            have HASd := Lib.hid (HAS.out.stp hs2)
            have HL2 := Lib.hid (List_did ⟨p, dp, b0, b1⟩ v2 x2 wd hq2)
            rw [list_up HKP.out.up] at HL2
            clear hq2 hs2 HC c0 c1 c2 c3 c4 c5 HOc HAS
            go_wp2_with fail
            refine HL2.out.mono ?_
            rintro e we ⟨⟨u2, rfl, hu2⟩, hbe⟩
            have HOe := Lib.hid (HOd.out.below hbe)
            have HASe := Lib.hid (HASd.out.below hbe)
            obtain ⟨nn, hnn⟩ : ∃ nn, nn = x.q.jobs.length := ⟨_, rfl⟩
            obtain ⟨n2, hn2⟩ : ∃ n2, n2 = x2.q.jobs.length := ⟨_, rfl⟩
            obtain ⟨ua2, uc2, rfl⟩ : ∃ a c, u2 = .slice a n2 c := by
              rcases hu2.2 with ⟨e, h0⟩ | ⟨g, c, _, _, e, _⟩
              · exact ⟨none, 0, by rw [e, hn2, h0]⟩
              · exact ⟨_, c, by rw [hn2]; exact e⟩
            rw [← hnn] at hl1 hl2 hlen ⊢
            rw [← hn2] at hl1 hl2 hlen2
            have HNN := Lib.hid hnn
            clear hnn hn2 hu2 hbe HOd HASd HL2
            go_wp2_with fail
            go_loopw [10, 11, 12] (fun iv _ _ wr => ∃ i : Nat, i ≤ nn ∧ iv = .int .i64 (i : Int) ∧ Hid (Ord w1.heap.size ⟨p, dp, b0, b1⟩ v2 x2 w1 wr) ∧ Hid (Aside ⟨p, dp, b0, b1⟩ v2 (.slice ua nn uc) x.q.jobs wr)) (fun iv _ _ _ => nn - (intOf iv).toNat)
            case atStart => exact ⟨0, Nat.zero_le _, rfl, HOe.out, by rw [HNN.out]; exact HASe.out⟩
            case round =>
              clear HOe HASe
              obtain ⟨i, hi, rfl, hOi, hAi⟩ := hrel
              by_cases hilt : i < nn
              · obtain ⟨j, hj⟩ : ∃ j, x.q.jobs[i]? = some j := ⟨_, List.getElem?_eq_getElem (by rw [← HNN.out]; exact hilt)⟩
                have hAi2 := hAi.out
                rw [HNN.out] at hAi2
                obtain ⟨g, hge, hgc⟩ := hAi2.job i j hj
                subst hge
                have c0 : wr.cell? ⟨g, i * 9, none⟩ = some (.int .i64 j.id) := hgc 0 _ (by omega) rfl
                have HG := Lib.hid (Get_did ⟨p, dp, b0, b1⟩ v2 x2 (j.id : Int) wr hOi.out.qd)
                have HGC : Hid (∀ W, Below wr.heap.size wr W → ∀ i' u, i' < 9 → j.cells[i']? = some u → W.cell? ⟨g, i * 9 + i', none⟩ = some u) := Lib.hid (fun W hW => by
                  obtain ⟨g', hge', hgc'⟩ := (hAi2.below hW).job i j hj
                  injection hge' with hge'
                  injection hge' with hge'
                  subst hge'
                  exact hgc')
                have hmem := List.mem_of_getElem? hj
                have hjob := HKP.out.job j hmem
                have hs5 := (HF.out.ok.job j hmem).s5
                clear hgc hAi2 hj hmem
                rcases hjob with ⟨j', hj'm, hj'id, hj'e⟩ | ⟨h9, hje, hno⟩
                · have hget := get_mem HKP.out.up.fine HKP.out.up.nd hj'm
                  rw [hj'id] at hget
                  rw [hget] at HG
                  clear hget hj'm hj'id
                  unfold Jb.val Jb.cells strV at HG
                  go_wp2_with fail
                  refine HG.out.mono ?_
                  rintro e wg ⟨rfl, hbg⟩
                  obtain ⟨b, hb⟩ : ∃ b, b = wg.heap.size := ⟨_, rfl⟩
                  obtain ⟨W2, hW2⟩ : ∃ W, W = wg.alloc (.cells #[.int .i64 (j'.id : Int), .string (bytesOf j'.client), .string (bytesOf j'.token), .int .i64 (j'.prio : Int), .int .i64 (j'.state : Int), .int .i64 (j'.tries : Int), .string (bytesOf j'.work), .string (bytesOf j'.point), .string (bytesOf j'.result)] 38) := ⟨_, rfl⟩
                  have hb2 : Below wg.heap.size wg W2 := by rw [hW2]; exact (Below.refl _ wg).alloc (Nat.le_refl _) _
                  have bx2 : BoxAt W2 b j' := by rw [hW2, hb]; exact alloc_last _ _ rfl
                  have hb3 : Below wr.heap.size wr W2 := hbg.trans (hb2.mono hbg.size)
                  have HO3 := Lib.hid (hOi.out.below (hb3.trans ((Below.refl W2.heap.size W2).drew.mono hb3.size)))
                  have HA3 := Lib.hid (hAi.out.below (hb3.trans ((Below.refl W2.heap.size W2).drew.mono hb3.size)))
                  have hcs := HGC.out W2 hb3
                  have HBX := Lib.hid bx2
                  have HW2 := Lib.hid hW2
                  have HB := Lib.hid hb
                  have HACT2 := Lib.hid (HACT.out W2 (hOi.out.bl.trans (hb3.mono hOi.out.le)))
                  clear hb2 bx2 hb3 hbg hW2 hb c0 HG
                  go_upto_region 18 with (fail)
                  rw [← HW2.out, ← HB.out]
                  clear HW2 HB
                  by_cases h3 : 3 ≤ j.state
                  · have e := hj'e (by unfold endedB; simp; omega)
                    subst e
                    have h3' : (3 : Int) ≤ (j'.state : Int) := by omega
                    have hq := fun W => job_neq j' j' W
                    have hgd := fun op a b W => job_guard op a b j' j' W
                    rw [decide_eq_true rfl] at hq
                    unfold Jb.val Jb.cells strV at hq hgd
                    refine wp_region_heldL (fun w' => w'.cell? ⟨g, i * 9, none⟩ = some (.int .i64 j'.id) ∧ w'.cell? ⟨g, i * 9 + 1, none⟩ = some (.string (bytesOf j'.client)) ∧ w'.cell? ⟨g, i * 9 + 2, none⟩ = some (.string (bytesOf j'.token)) ∧ w'.cell? ⟨g, i * 9 + 3, none⟩ = some (.int .i64 j'.prio) ∧ w'.cell? ⟨g, i * 9 + 4, none⟩ = some (.int .i64 j'.state) ∧ w'.cell? ⟨g, i * 9 + 5, none⟩ = some (.int .i64 j'.tries) ∧ w'.cell? ⟨g, i * 9 + 6, none⟩ = some (.string (bytesOf j'.work)) ∧ w'.cell? ⟨g, i * 9 + 7, none⟩ = some (.string (bytesOf j'.point)) ∧ w'.cell? ⟨g, i * 9 + 8, none⟩ = some (.string (bytesOf j'.result)) ∧ w'.cell? ⟨b, 0, none⟩ = some (.int .i64 j'.id) ∧ w'.cell? ⟨b, 1, none⟩ = some (.string (bytesOf j'.client)) ∧ w'.cell? ⟨b, 2, none⟩ = some (.string (bytesOf j'.token)) ∧ w'.cell? ⟨b, 3, none⟩ = some (.int .i64 j'.prio) ∧ w'.cell? ⟨b, 4, none⟩ = some (.int .i64 j'.state) ∧ w'.cell? ⟨b, 5, none⟩ = some (.int .i64 j'.tries) ∧ w'.cell? ⟨b, 6, none⟩ = some (.string (bytesOf j'.work)) ∧ w'.cell? ⟨b, 7, none⟩ = some (.string (bytesOf j'.point)) ∧ w'.cell? ⟨b, 8, none⟩ = some (.string (bytesOf j'.result))) (by kernel_rfl) ⟨hcs 0 _ (by omega) rfl, hcs 1 _ (by omega) rfl, hcs 2 _ (by omega) rfl, hcs 3 _ (by omega) rfl, hcs 4 _ (by omega) rfl, hcs 5 _ (by omega) rfl, hcs 6 _ (by omega) rfl, hcs 7 _ (by omega) rfl, hcs 8 _ (by omega) rfl, HBX.out.all.1, HBX.out.all.2.1, HBX.out.all.2.2.1, HBX.out.all.2.2.2.1, HBX.out.all.2.2.2.2.1, HBX.out.all.2.2.2.2.2.1, HBX.out.all.2.2.2.2.2.2.1, HBX.out.all.2.2.2.2.2.2.2.1, HBX.out.all.2.2.2.2.2.2.2.2⟩ (fun hHeld => ?_)
                    clear hcs
                    refine wpAnyH_takeL 0 (v := ?_) (by kernel_rfl) rfl (by kernel_rfl) (by kernel_rfl) (fun _ _ _ h => h) (Or.inl ⟨by rfl, ?_⟩) (by assumption) ?_
                    rotate_left
                    · (intro wq hSq; (try dsimp only at hSq); go_simp; try with_reducible rfl)
                    try simp only [Act.put, List.setIfInBounds_toArray, List.set_cons_zero, List.set_cons_succ]
                    refine wpAnyH_takeL 1 (v := ?_) (by kernel_rfl) rfl (by kernel_rfl) (by kernel_rfl) (fun _ _ _ h => h) (Or.inl ⟨by rfl, ?_⟩) (by assumption) ?_
                    rotate_left
                    · (intro wq hSq; (try dsimp only at hSq); go_simp; try with_reducible rfl)
                    try simp only [Act.put, List.setIfInBounds_toArray, List.set_cons_zero, List.set_cons_succ]
                    refine wpAnyH_takeL 2 (v := ?_) (by kernel_rfl) rfl (by kernel_rfl) (by kernel_rfl) (fun _ _ _ h => h) (Or.inl ⟨by rfl, ?_⟩) (by assumption) ?_
                    rotate_left
                    · (intro wq hSq; (try dsimp only at hSq); go_simp; try with_reducible rfl)
                    try simp only [Act.put, List.setIfInBounds_toArray, List.set_cons_zero, List.set_cons_succ]
                    refine wpAnyH_takeL 3 (v := ?_) (by kernel_rfl) rfl (by kernel_rfl) (by kernel_rfl) (fun _ _ _ h => h) (Or.inl ⟨by rfl, ?_⟩) (by assumption) ?_
                    rotate_left
                    · (intro wq hSq; (try dsimp only at hSq); go_simp; try with_reducible rfl)
                    try simp only [Act.put, List.setIfInBounds_toArray, List.set_cons_zero, List.set_cons_succ]
                    refine wpAnyH_takeL 4 (v := ?_) (by kernel_rfl) rfl (by kernel_rfl) (by kernel_rfl) (fun _ _ _ h => h) (Or.inl ⟨by rfl, ?_⟩) (by assumption) ?_
                    rotate_left
                    · (intro wq hSq; (try dsimp only at hSq); go_simp; try with_reducible rfl)
                    try simp only [Act.put, List.setIfInBounds_toArray, List.set_cons_zero, List.set_cons_succ]
                    refine wpAnyH_takeL 5 (v := ?_) (by kernel_rfl) rfl (by kernel_rfl) (by kernel_rfl) (fun _ _ _ h => h) (Or.inl ⟨by rfl, ?_⟩) (by assumption) ?_
                    rotate_left
                    · (intro wq hSq; (try dsimp only at hSq); go_simp; try with_reducible rfl)
                    try simp only [Act.put, List.setIfInBounds_toArray, List.set_cons_zero, List.set_cons_succ]
                    refine wpAnyH_takeL 6 (v := ?_) (by kernel_rfl) rfl (by kernel_rfl) (by kernel_rfl) (fun _ _ _ h => h) (Or.inl ⟨by rfl, ?_⟩) (by assumption) ?_
                    rotate_left
                    · (intro wq hSq; (try dsimp only at hSq); go_simp; try with_reducible rfl)
                    try simp only [Act.put, List.setIfInBounds_toArray, List.set_cons_zero, List.set_cons_succ]
                    refine wpAnyH_takeL 7 (v := ?_) (by kernel_rfl) rfl (by kernel_rfl) (by kernel_rfl) (fun _ _ _ h => h) (Or.inl ⟨by rfl, ?_⟩) (by assumption) ?_
                    rotate_left
                    · (intro wq hSq; (try dsimp only at hSq); go_simp; try with_reducible rfl)
                    try simp only [Act.put, List.setIfInBounds_toArray, List.set_cons_zero, List.set_cons_succ]
                    refine wpAnyH_takeL 8 (v := ?_) (by kernel_rfl) rfl (by kernel_rfl) (by kernel_rfl) (fun _ _ _ h => h) (Or.inl ⟨by rfl, ?_⟩) (by assumption) ?_
                    rotate_left
                    · (intro wq hSq; (try dsimp only at hSq); go_simp; try with_reducible rfl)
                    try simp only [Act.put, List.setIfInBounds_toArray, List.set_cons_zero, List.set_cons_succ]
                    refine wpAnyH_takeL 9 (v := ?_) (by kernel_rfl) rfl (by kernel_rfl) (by kernel_rfl) (fun _ _ _ h => h) (Or.inl ⟨by rfl, ?_⟩) (by assumption) ?_
                    rotate_left
                    · (intro wq hSq; (try dsimp only at hSq); go_simp; try with_reducible rfl)
                    try simp only [Act.put, List.setIfInBounds_toArray, List.set_cons_zero, List.set_cons_succ]
                    refine wpAnyH_takeL 10 (v := ?_) (by kernel_rfl) rfl (by kernel_rfl) (by kernel_rfl) (fun _ _ _ h => h) (Or.inl ⟨by rfl, ?_⟩) (by assumption) ?_
                    rotate_left
                    · (intro wq hSq; (try dsimp only at hSq); go_simp; try with_reducible rfl)
                    try simp only [Act.put, List.setIfInBounds_toArray, List.set_cons_zero, List.set_cons_succ]
                    refine wpAnyH_takeL 11 (v := ?_) (by kernel_rfl) rfl (by kernel_rfl) (by kernel_rfl) (fun _ _ _ h => h) (Or.inl ⟨by rfl, ?_⟩) (by assumption) ?_
                    rotate_left
                    · (intro wq hSq; (try dsimp only at hSq); go_simp; try with_reducible rfl)
                    try simp only [Act.put, List.setIfInBounds_toArray, List.set_cons_zero, List.set_cons_succ]
                    refine wpAnyH_takeL 12 (v := ?_) (by kernel_rfl) rfl (by kernel_rfl) (by kernel_rfl) (fun _ _ _ h => h) (Or.inl ⟨by rfl, ?_⟩) (by assumption) ?_
                    rotate_left
                    · (intro wq hSq; (try dsimp only at hSq); go_simp; try with_reducible rfl)
                    try simp only [Act.put, List.setIfInBounds_toArray, List.set_cons_zero, List.set_cons_succ]
                    refine wpAnyH_takeL 13 (v := ?_) (by kernel_rfl) rfl (by kernel_rfl) (by kernel_rfl) (fun _ _ _ h => h) (Or.inl ⟨by rfl, ?_⟩) (by assumption) ?_
                    rotate_left
                    · (intro wq hSq; (try dsimp only at hSq); go_simp; try with_reducible rfl)
                    try simp only [Act.put, List.setIfInBounds_toArray, List.set_cons_zero, List.set_cons_succ]
                    refine wpAnyH_takeL 14 (v := ?_) (by kernel_rfl) rfl (by kernel_rfl) (by kernel_rfl) (fun _ _ _ h => h) (Or.inl ⟨by rfl, ?_⟩) (by assumption) ?_
                    rotate_left
                    · (intro wq hSq; (try dsimp only at hSq); go_simp; try with_reducible rfl)
                    try simp only [Act.put, List.setIfInBounds_toArray, List.set_cons_zero, List.set_cons_succ]
                    refine wpAnyH_takeL 15 (v := ?_) (by kernel_rfl) rfl (by kernel_rfl) (by kernel_rfl) (fun _ _ _ h => h) (Or.inl ⟨by rfl, ?_⟩) (by assumption) ?_
                    rotate_left
                    · (intro wq hSq; (try dsimp only at hSq); go_simp; try with_reducible rfl)
                    try simp only [Act.put, List.setIfInBounds_toArray, List.set_cons_zero, List.set_cons_succ]
                    refine wpAnyH_takeL 16 (v := ?_) (by kernel_rfl) rfl (by kernel_rfl) (by kernel_rfl) (fun _ _ _ h => h) (Or.inl ⟨by rfl, ?_⟩) (by assumption) ?_
                    rotate_left
                    · (intro wq hSq; (try dsimp only at hSq); go_simp; try with_reducible rfl)
                    try simp only [Act.put, List.setIfInBounds_toArray, List.set_cons_zero, List.set_cons_succ]
                    refine wpAnyH_takeL 17 (v := ?_) (by kernel_rfl) rfl (by kernel_rfl) (by kernel_rfl) (fun _ _ _ h => h) (Or.inl ⟨by rfl, ?_⟩) (by assumption) ?_
                    rotate_left
                    · (intro wq hSq; (try dsimp only at hSq); go_simp; try with_reducible rfl)
                    try simp only [Act.put, List.setIfInBounds_toArray, List.set_cons_zero, List.set_cons_succ]
                    refine wpAnyH_takeL 18 (v := ?_) (by kernel_rfl) rfl (by kernel_rfl) (by kernel_rfl) (fun _ _ _ h => h) (Or.inl ⟨by rfl, ?_⟩) (by assumption) ?_
                    rotate_left
                    · (intro wq hSq; (try dsimp only at hSq); go_simp; try with_reducible rfl)
                    try simp only [Act.put, List.setIfInBounds_toArray, List.set_cons_zero, List.set_cons_succ]
                    refine wpAnyH_takeL 19 (v := ?_) (by kernel_rfl) rfl (by kernel_rfl) (by kernel_rfl) (fun _ _ _ h => h) (Or.inl ⟨by rfl, ?_⟩) (by assumption) ?_
                    rotate_left
                    · (intro wq hSq; (try dsimp only at hSq); go_simp; try with_reducible rfl)
                    try simp only [Act.put, List.setIfInBounds_toArray, List.set_cons_zero, List.set_cons_succ]
                    refine wpAnyH_takeL 20 (v := ?_) (by kernel_rfl) rfl (by kernel_rfl) (by kernel_rfl) (fun _ _ _ h => h) (Or.inl ⟨by rfl, ?_⟩) (by assumption) ?_
                    rotate_left
                    · (intro wq hSq; (try dsimp only at hSq); go_simp; try with_reducible rfl)
                    try simp only [Act.put, List.setIfInBounds_toArray, List.set_cons_zero, List.set_cons_succ]
                    refine wpAnyH_takeL 21 (v := ?_) (by kernel_rfl) rfl (by kernel_rfl) (by kernel_rfl) (fun _ _ _ h => h) (Or.inl ⟨by rfl, ?_⟩) (by assumption) ?_
                    rotate_left
                    · (intro wq hSq; (try dsimp only at hSq); go_simp; try with_reducible rfl)
                    try simp only [Act.put, List.setIfInBounds_toArray, List.set_cons_zero, List.set_cons_succ]
                    refine wpAnyH_takeL 22 (v := undef) (by kernel_rfl) rfl (by kernel_rfl) (by kernel_rfl) (fun _ _ _ h => h) (Or.inr ⟨by rfl, rfl⟩) (by assumption) ?_
                    try simp only [Act.put, List.setIfInBounds_toArray, List.set_cons_zero, List.set_cons_succ]
                    refine wpAnyH_takeL 23 (v := undef) (by kernel_rfl) rfl (by kernel_rfl) (by kernel_rfl) (fun _ _ _ h => h) (Or.inr ⟨by rfl, rfl⟩) (by assumption) ?_
                    try simp only [Act.put, List.setIfInBounds_toArray, List.set_cons_zero, List.set_cons_succ]
                    refine wpAnyH_takeL 24 (v := undef) (by kernel_rfl) rfl (by kernel_rfl) (by kernel_rfl) (fun _ _ _ h => h) (Or.inr ⟨by rfl, rfl⟩) (by assumption) ?_
                    try simp only [Act.put, List.setIfInBounds_toArray, List.set_cons_zero, List.set_cons_succ]
                    refine wpAnyH_takeL 25 (v := undef) (by kernel_rfl) rfl (by kernel_rfl) (by kernel_rfl) (fun _ _ _ h => h) (Or.inr ⟨by rfl, rfl⟩) (by assumption) ?_
                    try simp only [Act.put, List.setIfInBounds_toArray, List.set_cons_zero, List.set_cons_succ]
                    refine wpAnyH_takeL 26 (v := undef) (by kernel_rfl) rfl (by kernel_rfl) (by kernel_rfl) (fun _ _ _ h => h) (Or.inr ⟨by rfl, rfl⟩) (by assumption) ?_
                    try simp only [Act.put, List.setIfInBounds_toArray, List.set_cons_zero, List.set_cons_succ]
                    refine wpAnyH_takeL 27 (v := undef) (by kernel_rfl) rfl (by kernel_rfl) (by kernel_rfl) (fun _ _ _ h => h) (Or.inr ⟨by rfl, rfl⟩) (by assumption) ?_
                    try simp only [Act.put, List.setIfInBounds_toArray, List.set_cons_zero, List.set_cons_succ]
                    refine wpAnyH_takeL 28 (v := undef) (by kernel_rfl) rfl (by kernel_rfl) (by kernel_rfl) (fun _ _ _ h => h) (Or.inr ⟨by rfl, rfl⟩) (by assumption) ?_
                    try simp only [Act.put, List.setIfInBounds_toArray, List.set_cons_zero, List.set_cons_succ]
                    refine wpAnyH_takeL 29 (v := undef) (by kernel_rfl) rfl (by kernel_rfl) (by kernel_rfl) (fun _ _ _ h => h) (Or.inr ⟨by rfl, rfl⟩) (by assumption) ?_
                    try simp only [Act.put, List.setIfInBounds_toArray, List.set_cons_zero, List.set_cons_succ]
                    refine wpAnyH_takeL 30 (v := undef) (by kernel_rfl) rfl (by kernel_rfl) (by kernel_rfl) (fun _ _ _ h => h) (Or.inr ⟨by rfl, rfl⟩) (by assumption) ?_
                    try simp only [Act.put, List.setIfInBounds_toArray, List.set_cons_zero, List.set_cons_succ]
                    refine wpAnyH_takeL 31 (v := undef) (by kernel_rfl) rfl (by kernel_rfl) (by kernel_rfl) (fun _ _ _ h => h) (Or.inr ⟨by rfl, rfl⟩) (by assumption) ?_
                    try simp only [Act.put, List.setIfInBounds_toArray, List.set_cons_zero, List.set_cons_succ]
                    refine wpAnyH_takeL 32 (v := undef) (by kernel_rfl) rfl (by kernel_rfl) (by kernel_rfl) (fun _ _ _ h => h) (Or.inr ⟨by rfl, rfl⟩) (by assumption) ?_
                    try simp only [Act.put, List.setIfInBounds_toArray, List.set_cons_zero, List.set_cons_succ]
                    refine wpAnyH_takeL 33 (v := undef) (by kernel_rfl) rfl (by kernel_rfl) (by kernel_rfl) (fun _ _ _ h => h) (Or.inr ⟨by rfl, rfl⟩) (by assumption) ?_
                    try simp only [Act.put, List.setIfInBounds_toArray, List.set_cons_zero, List.set_cons_succ]
                    refine wpAnyH_takeL 34 (v := undef) (by kernel_rfl) rfl (by kernel_rfl) (by kernel_rfl) (fun _ _ _ h => h) (Or.inr ⟨by rfl, rfl⟩) (by assumption) ?_
                    try simp only [Act.put, List.setIfInBounds_toArray, List.set_cons_zero, List.set_cons_succ]
                    refine wpAnyH_takeL 35 (v := undef) (by kernel_rfl) rfl (by kernel_rfl) (by kernel_rfl) (fun _ _ _ h => h) (Or.inr ⟨by rfl, rfl⟩) (by assumption) ?_
                    try simp only [Act.put, List.setIfInBounds_toArray, List.set_cons_zero, List.set_cons_succ]
                    refine wpAnyH_takeL 36 (v := undef) (by kernel_rfl) rfl (by kernel_rfl) (by kernel_rfl) (fun _ _ _ h => h) (Or.inr ⟨by rfl, rfl⟩) (by assumption) ?_
                    try simp only [Act.put, List.setIfInBounds_toArray, List.set_cons_zero, List.set_cons_succ]
                    refine wpAnyH_takeL 37 (v := ?_) (by kernel_rfl) rfl (by kernel_rfl) (by kernel_rfl) (fun _ _ _ h => h) (Or.inl ⟨by rfl, ?_⟩) (by assumption) ?_
                    rotate_left
                    · (intro wq hSq; (try dsimp only at hSq); go_simp; try with_reducible rfl)
                    try simp only [Act.put, List.setIfInBounds_toArray, List.set_cons_zero, List.set_cons_succ]
                    refine wpAnyH_takeL 38 (v := ?_) (by kernel_rfl) rfl (by kernel_rfl) (by kernel_rfl) (fun _ _ _ h => h) (Or.inl ⟨by rfl, ?_⟩) (by assumption) ?_
                    rotate_left
                    · (intro wq hSq; (try dsimp only at hSq); go_simp; try with_reducible rfl)
                    try simp only [Act.put, List.setIfInBounds_toArray, List.set_cons_zero, List.set_cons_succ]
                    refine wpAnyH_end (by kernel_rfl) ?_
                    clear hHeld hq hgd
                    go_wp2_with fail
                    go_roundw
                    case rel => exact ⟨i + 1, by omega, by go_num, HO3.out, HA3.out⟩
                    case measure => simp [intOf]; omega
                  · have h3' : ¬ (3 : Int) ≤ (j.state : Int) := by omega
                    clear hj'e
                    refine wp_region_heldL (fun w' => w'.cell? ⟨g, i * 9 + 4, none⟩ = some (.int .i64 j.state)) (by kernel_rfl) (hcs 4 _ (by omega) rfl) (fun hHeld => ?_)
                    clear hcs
                    refine wpAnyH_takeL 0 (v := ?_) (by kernel_rfl) rfl (by kernel_rfl) (by kernel_rfl) (fun _ _ _ h => h) (Or.inl ⟨by rfl, ?_⟩) (by assumption) ?_
                    rotate_left
                    · (intro wq hSq; (try dsimp only at hSq); go_simp; try with_reducible rfl)
                    try simp only [Act.put, List.setIfInBounds_toArray, List.set_cons_zero, List.set_cons_succ]
                    refine wpAnyH_takeL 1 (v := ?_) (by kernel_rfl) rfl (by kernel_rfl) (by kernel_rfl) (fun _ _ _ h => h) (Or.inl ⟨by rfl, ?_⟩) (by assumption) ?_
                    rotate_left
                    · (intro wq hSq; (try dsimp only at hSq); go_simp; try with_reducible rfl)
                    try simp only [Act.put, List.setIfInBounds_toArray, List.set_cons_zero, List.set_cons_succ]
                    refine wpAnyH_takeL 2 (v := ?_) (by kernel_rfl) rfl (by kernel_rfl) (by kernel_rfl) (fun _ _ _ h => h) (Or.inl ⟨by rfl, ?_⟩) (by assumption) ?_
                    rotate_left
                    · (intro wq hSq; (try dsimp only at hSq); go_simp; try with_reducible rfl)
                    try simp only [Act.put, List.setIfInBounds_toArray, List.set_cons_zero, List.set_cons_succ]
                    refine wpAnyH_takeL 3 (v := ?_) (by kernel_rfl) rfl (by kernel_rfl) (by kernel_rfl) (fun _ _ _ h => h) (Or.inl ⟨by rfl, ?_⟩) (by assumption) ?_
                    rotate_left
                    · (intro wq hSq; (try dsimp only at hSq); go_simp; try with_reducible rfl)
                    try simp only [Act.put, List.setIfInBounds_toArray, List.set_cons_zero, List.set_cons_succ]
                    refine wpAnyH_takeL 4 (v := ?_) (by kernel_rfl) rfl (by kernel_rfl) (by kernel_rfl) (fun _ _ _ h => h) (Or.inl ⟨by rfl, ?_⟩) (by assumption) ?_
                    rotate_left
                    · (intro wq hSq; (try dsimp only at hSq); go_simp; try with_reducible rfl)
                    try simp only [Act.put, List.setIfInBounds_toArray, List.set_cons_zero, List.set_cons_succ]
                    refine wpAnyH_takeL 5 (v := ?_) (by kernel_rfl) rfl (by kernel_rfl) (by kernel_rfl) (fun _ _ _ h => h) (Or.inl ⟨by rfl, ?_⟩) (by assumption) ?_
                    rotate_left
                    · (intro wq hSq; (try dsimp only at hSq); go_simp; try with_reducible rfl)
                    try simp only [Act.put, List.setIfInBounds_toArray, List.set_cons_zero, List.set_cons_succ]
                    refine wpAnyH_takeL 6 (v := ?_) (by kernel_rfl) rfl (by kernel_rfl) (by kernel_rfl) (fun _ _ _ h => h) (Or.inl ⟨by rfl, ?_⟩) (by assumption) ?_
                    rotate_left
                    · (intro wq hSq; (try dsimp only at hSq); go_simp; try with_reducible rfl)
                    try simp only [Act.put, List.setIfInBounds_toArray, List.set_cons_zero, List.set_cons_succ]
                    refine wpAnyH_takeL 7 (v := undef) (by kernel_rfl) rfl (by kernel_rfl) (by kernel_rfl) (fun _ _ _ h => h) (Or.inr ⟨by rfl, rfl⟩) (by assumption) ?_
                    try simp only [Act.put, List.setIfInBounds_toArray, List.set_cons_zero, List.set_cons_succ]
                    refine wpAnyH_takeL 8 (v := undef) (by kernel_rfl) rfl (by kernel_rfl) (by kernel_rfl) (fun _ _ _ h => h) (Or.inr ⟨by rfl, rfl⟩) (by assumption) ?_
                    try simp only [Act.put, List.setIfInBounds_toArray, List.set_cons_zero, List.set_cons_succ]
                    refine wpAnyH_takeL 9 (v := ?_) (by kernel_rfl) rfl (by kernel_rfl) (by kernel_rfl) (fun _ _ _ h => h) (Or.inl ⟨by rfl, ?_⟩) (by assumption) ?_
                    rotate_left
                    · (intro wq hSq; (try dsimp only at hSq); go_simp; try with_reducible rfl)
                    try simp only [Act.put, List.setIfInBounds_toArray, List.set_cons_zero, List.set_cons_succ]
                    refine wpAnyH_takeL 10 (v := ?_) (by kernel_rfl) rfl (by kernel_rfl) (by kernel_rfl) (fun _ _ _ h => h) (Or.inl ⟨by rfl, ?_⟩) (by assumption) ?_
                    rotate_left
                    · (intro wq hSq; (try dsimp only at hSq); go_simp; try with_reducible rfl)
                    try simp only [Act.put, List.setIfInBounds_toArray, List.set_cons_zero, List.set_cons_succ]
                    refine wpAnyH_takeL 11 (v := undef) (by kernel_rfl) rfl (by kernel_rfl) (by kernel_rfl) (fun _ _ _ h => h) (Or.inr ⟨by rfl, rfl⟩) (by assumption) ?_
                    try simp only [Act.put, List.setIfInBounds_toArray, List.set_cons_zero, List.set_cons_succ]
                    refine wpAnyH_takeL 12 (v := undef) (by kernel_rfl) rfl (by kernel_rfl) (by kernel_rfl) (fun _ _ _ h => h) (Or.inr ⟨by rfl, rfl⟩) (by assumption) ?_
                    try simp only [Act.put, List.setIfInBounds_toArray, List.set_cons_zero, List.set_cons_succ]
                    refine wpAnyH_takeL 13 (v := undef) (by kernel_rfl) rfl (by kernel_rfl) (by kernel_rfl) (fun _ _ _ h => h) (Or.inr ⟨by rfl, rfl⟩) (by assumption) ?_
                    try simp only [Act.put, List.setIfInBounds_toArray, List.set_cons_zero, List.set_cons_succ]
                    refine wpAnyH_takeL 14 (v := undef) (by kernel_rfl) rfl (by kernel_rfl) (by kernel_rfl) (fun _ _ _ h => h) (Or.inr ⟨by rfl, rfl⟩) (by assumption) ?_
                    try simp only [Act.put, List.setIfInBounds_toArray, List.set_cons_zero, List.set_cons_succ]
                    refine wpAnyH_takeL 15 (v := undef) (by kernel_rfl) rfl (by kernel_rfl) (by kernel_rfl) (fun _ _ _ h => h) (Or.inr ⟨by rfl, rfl⟩) (by assumption) ?_
                    try simp only [Act.put, List.setIfInBounds_toArray, List.set_cons_zero, List.set_cons_succ]
                    refine wpAnyH_takeL 16 (v := undef) (by kernel_rfl) rfl (by kernel_rfl) (by kernel_rfl) (fun _ _ _ h => h) (Or.inr ⟨by rfl, rfl⟩) (by assumption) ?_
                    try simp only [Act.put, List.setIfInBounds_toArray, List.set_cons_zero, List.set_cons_succ]
                    refine wpAnyH_takeL 17 (v := ?_) (by kernel_rfl) rfl (by kernel_rfl) (by kernel_rfl) (fun _ _ _ h => h) (Or.inl ⟨by rfl, ?_⟩) (by assumption) ?_
                    rotate_left
                    · (intro wq hSq; (try dsimp only at hSq); go_simp; try with_reducible rfl)
                    try simp only [Act.put, List.setIfInBounds_toArray, List.set_cons_zero, List.set_cons_succ]
                    refine wpAnyH_takeL 18 (v := ?_) (by kernel_rfl) rfl (by kernel_rfl) (by kernel_rfl) (fun _ _ _ h => h) (Or.inl ⟨by rfl, ?_⟩) (by assumption) ?_
                    rotate_left
                    · (intro wq hSq; (try dsimp only at hSq); go_simp; try with_reducible rfl)
                    try simp only [Act.put, List.setIfInBounds_toArray, List.set_cons_zero, List.set_cons_succ]
                    refine wpAnyH_takeL 19 (v := ?_) (by kernel_rfl) rfl (by kernel_rfl) (by kernel_rfl) (fun _ _ _ h => h) (Or.inl ⟨by rfl, ?_⟩) (by assumption) ?_
                    rotate_left
                    · (intro wq hSq; (try dsimp only at hSq); go_simp; try with_reducible rfl)
                    try simp only [Act.put, List.setIfInBounds_toArray, List.set_cons_zero, List.set_cons_succ]
                    refine wpAnyH_takeL 20 (v := ?_) (by kernel_rfl) rfl (by kernel_rfl) (by kernel_rfl) (fun _ _ _ h => h) (Or.inl ⟨by rfl, ?_⟩) (by assumption) ?_
                    rotate_left
                    · (intro wq hSq; (try dsimp only at hSq); go_simp; try with_reducible rfl)
                    try simp only [Act.put, List.setIfInBounds_toArray, List.set_cons_zero, List.set_cons_succ]
                    refine wpAnyH_takeL 21 (v := ?_) (by kernel_rfl) rfl (by kernel_rfl) (by kernel_rfl) (fun _ _ _ h => h) (Or.inl ⟨by rfl, ?_⟩) (by assumption) ?_
                    rotate_left
                    · (intro wq hSq; (try dsimp only at hSq); go_simp; try with_reducible rfl)
                    try simp only [Act.put, List.setIfInBounds_toArray, List.set_cons_zero, List.set_cons_succ]
                    refine wpAnyH_takeL 22 (v := undef) (by kernel_rfl) rfl (by kernel_rfl) (by kernel_rfl) (fun _ _ _ h => h) (Or.inr ⟨by rfl, rfl⟩) (by assumption) ?_
                    try simp only [Act.put, List.setIfInBounds_toArray, List.set_cons_zero, List.set_cons_succ]
                    refine wpAnyH_takeL 23 (v := undef) (by kernel_rfl) rfl (by kernel_rfl) (by kernel_rfl) (fun _ _ _ h => h) (Or.inr ⟨by rfl, rfl⟩) (by assumption) ?_
                    try simp only [Act.put, List.setIfInBounds_toArray, List.set_cons_zero, List.set_cons_succ]
                    refine wpAnyH_takeL 24 (v := undef) (by kernel_rfl) rfl (by kernel_rfl) (by kernel_rfl) (fun _ _ _ h => h) (Or.inr ⟨by rfl, rfl⟩) (by assumption) ?_
                    try simp only [Act.put, List.setIfInBounds_toArray, List.set_cons_zero, List.set_cons_succ]
                    refine wpAnyH_takeL 25 (v := undef) (by kernel_rfl) rfl (by kernel_rfl) (by kernel_rfl) (fun _ _ _ h => h) (Or.inr ⟨by rfl, rfl⟩) (by assumption) ?_
                    try simp only [Act.put, List.setIfInBounds_toArray, List.set_cons_zero, List.set_cons_succ]
                    refine wpAnyH_takeL 26 (v := undef) (by kernel_rfl) rfl (by kernel_rfl) (by kernel_rfl) (fun _ _ _ h => h) (Or.inr ⟨by rfl, rfl⟩) (by assumption) ?_
                    try simp only [Act.put, List.setIfInBounds_toArray, List.set_cons_zero, List.set_cons_succ]
                    refine wpAnyH_takeL 27 (v := undef) (by kernel_rfl) rfl (by kernel_rfl) (by kernel_rfl) (fun _ _ _ h => h) (Or.inr ⟨by rfl, rfl⟩) (by assumption) ?_
                    try simp only [Act.put, List.setIfInBounds_toArray, List.set_cons_zero, List.set_cons_succ]
                    refine wpAnyH_takeL 28 (v := undef) (by kernel_rfl) rfl (by kernel_rfl) (by kernel_rfl) (fun _ _ _ h => h) (Or.inr ⟨by rfl, rfl⟩) (by assumption) ?_
                    try simp only [Act.put, List.setIfInBounds_toArray, List.set_cons_zero, List.set_cons_succ]
                    refine wpAnyH_takeL 29 (v := undef) (by kernel_rfl) rfl (by kernel_rfl) (by kernel_rfl) (fun _ _ _ h => h) (Or.inr ⟨by rfl, rfl⟩) (by assumption) ?_
                    try simp only [Act.put, List.setIfInBounds_toArray, List.set_cons_zero, List.set_cons_succ]
                    refine wpAnyH_takeL 30 (v := undef) (by kernel_rfl) rfl (by kernel_rfl) (by kernel_rfl) (fun _ _ _ h => h) (Or.inr ⟨by rfl, rfl⟩) (by assumption) ?_
                    try simp only [Act.put, List.setIfInBounds_toArray, List.set_cons_zero, List.set_cons_succ]
                    refine wpAnyH_takeL 31 (v := undef) (by kernel_rfl) rfl (by kernel_rfl) (by kernel_rfl) (fun _ _ _ h => h) (Or.inr ⟨by rfl, rfl⟩) (by assumption) ?_
                    try simp only [Act.put, List.setIfInBounds_toArray, List.set_cons_zero, List.set_cons_succ]
                    refine wpAnyH_takeL 32 (v := undef) (by kernel_rfl) rfl (by kernel_rfl) (by kernel_rfl) (fun _ _ _ h => h) (Or.inr ⟨by rfl, rfl⟩) (by assumption) ?_
                    try simp only [Act.put, List.setIfInBounds_toArray, List.set_cons_zero, List.set_cons_succ]
                    refine wpAnyH_takeL 33 (v := undef) (by kernel_rfl) rfl (by kernel_rfl) (by kernel_rfl) (fun _ _ _ h => h) (Or.inr ⟨by rfl, rfl⟩) (by assumption) ?_
                    try simp only [Act.put, List.setIfInBounds_toArray, List.set_cons_zero, List.set_cons_succ]
                    refine wpAnyH_takeL 34 (v := undef) (by kernel_rfl) rfl (by kernel_rfl) (by kernel_rfl) (fun _ _ _ h => h) (Or.inr ⟨by rfl, rfl⟩) (by assumption) ?_
                    try simp only [Act.put, List.setIfInBounds_toArray, List.set_cons_zero, List.set_cons_succ]
                    refine wpAnyH_takeL 35 (v := undef) (by kernel_rfl) rfl (by kernel_rfl) (by kernel_rfl) (fun _ _ _ h => h) (Or.inr ⟨by rfl, rfl⟩) (by assumption) ?_
                    try simp only [Act.put, List.setIfInBounds_toArray, List.set_cons_zero, List.set_cons_succ]
                    refine wpAnyH_takeL 36 (v := undef) (by kernel_rfl) rfl (by kernel_rfl) (by kernel_rfl) (fun _ _ _ h => h) (Or.inr ⟨by rfl, rfl⟩) (by assumption) ?_
                    try simp only [Act.put, List.setIfInBounds_toArray, List.set_cons_zero, List.set_cons_succ]
                    refine wpAnyH_takeL 37 (v := ?_) (by kernel_rfl) rfl (by kernel_rfl) (by kernel_rfl) (fun _ _ _ h => h) (Or.inl ⟨by rfl, ?_⟩) (by assumption) ?_
                    rotate_left
                    · (intro wq hSq; (try dsimp only at hSq); go_simp; try with_reducible rfl)
                    try simp only [Act.put, List.setIfInBounds_toArray, List.set_cons_zero, List.set_cons_succ]
                    refine wpAnyH_takeL 38 (v := ?_) (by kernel_rfl) rfl (by kernel_rfl) (by kernel_rfl) (fun _ _ _ h => h) (Or.inl ⟨by rfl, ?_⟩) (by assumption) ?_
                    rotate_left
                    · (intro wq hSq; (try dsimp only at hSq); go_simp; try with_reducible rfl)
                    try simp only [Act.put, List.setIfInBounds_toArray, List.set_cons_zero, List.set_cons_succ]
                    refine wpAnyH_end (by kernel_rfl) ?_
                    clear hHeld
                    go_wp2_with fail
                    go_roundw
                    case rel => exact ⟨i + 1, by omega, by go_num, HO3.out, HA3.out⟩
                    case measure => simp [intOf]; omega
                · have hget := get_none HKP.out.up.nd hno
                  rw [hget] at HG
                  unfold Jb.none_ at HG
                  clear hget hno
                  have h3 := (ended_of hje).1
                  have h3' : (3 : Int) ≤ (j.state : Int) := by omega
                  have h3'' : decide ((j.state : Int) < 3) = false := decide_eq_false (by omega)
                  clear hje
                  have hm9 : m = 9 := by rw [HM.out]; exact h9
                  have hm9' : ((m : Int) == 9) = true := by rw [hm9]; rfl
                  clear h9 hm9
                  unfold Jb.val Jb.cells strV at HG
                  go_wp2_with fail
                  refine HG.out.mono ?_
                  rintro e wg ⟨rfl, hbg⟩
                  obtain ⟨b, hb⟩ : ∃ b, b = wg.heap.size := ⟨_, rfl⟩
                  obtain ⟨W2, hW2⟩ : ∃ W, W = wg.alloc (.cells #[.int .i64 0, .string (bytesOf []), .string (bytesOf []), .int .i64 0, .int .i64 0, .int .i64 0, .string (bytesOf []), .string (bytesOf []), .string (bytesOf [])] 38) := ⟨_, rfl⟩
                  have hb2 : Below wg.heap.size wg W2 := by rw [hW2]; exact (Below.refl _ wg).alloc (Nat.le_refl _) _
                  have bx2 : BoxAt W2 b Jb.none_ := by rw [hW2, hb]; exact alloc_last _ _ rfl
                  have hb3 : Below wr.heap.size wr W2 := hbg.trans (hb2.mono hbg.size)
                  have HO3 := Lib.hid (hOi.out.below (hb3.trans ((Below.refl W2.heap.size W2).drew.mono hb3.size)))
                  have HA3 := Lib.hid (hAi.out.below (hb3.trans ((Below.refl W2.heap.size W2).drew.mono hb3.size)))
                  have hcs := HGC.out W2 hb3
                  have HBX := Lib.hid bx2
                  have HW2 := Lib.hid hW2
                  have HB := Lib.hid hb
                  have HACT2 := Lib.hid (HACT.out W2 (hOi.out.bl.trans (hb3.mono hOi.out.le)))
                  clear hb2 bx2 hb3 hbg hW2 hb c0 HG
                  go_upto_region 18 with (fail)
                  rw [← HW2.out, ← HB.out]
                  clear HW2 HB
                  refine wp_region_heldL (fun w' => w'.cell? ⟨g, i * 9 + 4, none⟩ = some (.int .i64 j.state) ∧ w'.cell? ⟨ab, ao + k * 6, none⟩ = some (.int .u8 (ac.what : Int))) (by kernel_rfl) ⟨hcs 4 _ (by omega) rfl, HACT2.out.c0⟩ (fun hHeld => ?_)
                  clear hcs
                  refine wpAnyH_takeL 0 (v := ?_) (by kernel_rfl) rfl (by kernel_rfl) (by kernel_rfl) (fun _ _ _ h => h) (Or.inl ⟨by rfl, ?_⟩) (by assumption) ?_
                  rotate_left
                  · (intro wq hSq; (try dsimp only at hSq); go_simp; try with_reducible rfl)
                  try simp only [Act.put, List.setIfInBounds_toArray, List.set_cons_zero, List.set_cons_succ]
                  refine wpAnyH_takeL 1 (v := ?_) (by kernel_rfl) rfl (by kernel_rfl) (by kernel_rfl) (fun _ _ _ h => h) (Or.inl ⟨by rfl, ?_⟩) (by assumption) ?_
                  rotate_left
                  · (intro wq hSq; (try dsimp only at hSq); go_simp; try with_reducible rfl)
                  try simp only [Act.put, List.setIfInBounds_toArray, List.set_cons_zero, List.set_cons_succ]
                  refine wpAnyH_takeL 2 (v := ?_) (by kernel_rfl) rfl (by kernel_rfl) (by kernel_rfl) (fun _ _ _ h => h) (Or.inl ⟨by rfl, ?_⟩) (by assumption) ?_
                  rotate_left
                  · (intro wq hSq; (try dsimp only at hSq); go_simp; try with_reducible rfl)
                  try simp only [Act.put, List.setIfInBounds_toArray, List.set_cons_zero, List.set_cons_succ]
                  refine wpAnyH_takeL 3 (v := ?_) (by kernel_rfl) rfl (by kernel_rfl) (by kernel_rfl) (fun _ _ _ h => h) (Or.inl ⟨by rfl, ?_⟩) (by assumption) ?_
                  rotate_left
                  · (intro wq hSq; (try dsimp only at hSq); go_simp; try with_reducible rfl)
                  try simp only [Act.put, List.setIfInBounds_toArray, List.set_cons_zero, List.set_cons_succ]
                  refine wpAnyH_takeL 4 (v := ?_) (by kernel_rfl) rfl (by kernel_rfl) (by kernel_rfl) (fun _ _ _ h => h) (Or.inl ⟨by rfl, ?_⟩) (by assumption) ?_
                  rotate_left
                  · (intro wq hSq; (try dsimp only at hSq); go_simp; try with_reducible rfl)
                  try simp only [Act.put, List.setIfInBounds_toArray, List.set_cons_zero, List.set_cons_succ]
                  refine wpAnyH_takeL 5 (v := ?_) (by kernel_rfl) rfl (by kernel_rfl) (by kernel_rfl) (fun _ _ _ h => h) (Or.inl ⟨by rfl, ?_⟩) (by assumption) ?_
                  rotate_left
                  · (intro wq hSq; (try dsimp only at hSq); go_simp; try with_reducible rfl)
                  try simp only [Act.put, List.setIfInBounds_toArray, List.set_cons_zero, List.set_cons_succ]
                  refine wpAnyH_takeL 6 (v := ?_) (by kernel_rfl) rfl (by kernel_rfl) (by kernel_rfl) (fun _ _ _ h => h) (Or.inl ⟨by rfl, ?_⟩) (by assumption) ?_
                  rotate_left
                  · (intro wq hSq; (try dsimp only at hSq); go_simp; try with_reducible rfl)
                  try simp only [Act.put, List.setIfInBounds_toArray, List.set_cons_zero, List.set_cons_succ]
                  refine wpAnyH_takeL 7 (v := ?_) (by kernel_rfl) rfl (by kernel_rfl) (by kernel_rfl) (fun _ _ _ h => h) (Or.inl ⟨by rfl, ?_⟩) (by assumption) ?_
                  rotate_left
                  · (intro wq hSq; (try dsimp only at hSq); go_simp; try with_reducible rfl)
                  try simp only [Act.put, List.setIfInBounds_toArray, List.set_cons_zero, List.set_cons_succ]
                  refine wpAnyH_takeL 8 (v := ?_) (by kernel_rfl) rfl (by kernel_rfl) (by kernel_rfl) (fun _ _ _ h => h) (Or.inl ⟨by rfl, ?_⟩) (by assumption) ?_
                  rotate_left
                  · (intro wq hSq; (try dsimp only at hSq); go_simp; try with_reducible rfl)
                  try simp only [Act.put, List.setIfInBounds_toArray, List.set_cons_zero, List.set_cons_succ]
                  refine wpAnyH_takeL 9 (v := ?_) (by kernel_rfl) rfl (by kernel_rfl) (by kernel_rfl) (fun _ _ _ h => h) (Or.inl ⟨by rfl, ?_⟩) (by assumption) ?_
                  rotate_left
                  · (intro wq hSq; (try dsimp only at hSq); go_simp; try with_reducible rfl)
                  try simp only [Act.put, List.setIfInBounds_toArray, List.set_cons_zero, List.set_cons_succ]
                  refine wpAnyH_takeL 10 (v := ?_) (by kernel_rfl) rfl (by kernel_rfl) (by kernel_rfl) (fun _ _ _ h => h) (Or.inl ⟨by rfl, ?_⟩) (by assumption) ?_
                  rotate_left
                  · (intro wq hSq; (try dsimp only at hSq); go_simp; try with_reducible rfl)
                  try simp only [Act.put, List.setIfInBounds_toArray, List.set_cons_zero, List.set_cons_succ]
                  refine wpAnyH_takeL 11 (v := undef) (by kernel_rfl) rfl (by kernel_rfl) (by kernel_rfl) (fun _ _ _ h => h) (Or.inr ⟨by rfl, rfl⟩) (by assumption) ?_
                  try simp only [Act.put, List.setIfInBounds_toArray, List.set_cons_zero, List.set_cons_succ]
                  refine wpAnyH_takeL 12 (v := undef) (by kernel_rfl) rfl (by kernel_rfl) (by kernel_rfl) (fun _ _ _ h => h) (Or.inr ⟨by rfl, rfl⟩) (by assumption) ?_
                  try simp only [Act.put, List.setIfInBounds_toArray, List.set_cons_zero, List.set_cons_succ]
                  refine wpAnyH_takeL 13 (v := undef) (by kernel_rfl) rfl (by kernel_rfl) (by kernel_rfl) (fun _ _ _ h => h) (Or.inr ⟨by rfl, rfl⟩) (by assumption) ?_
                  try simp only [Act.put, List.setIfInBounds_toArray, List.set_cons_zero, List.set_cons_succ]
                  refine wpAnyH_takeL 14 (v := undef) (by kernel_rfl) rfl (by kernel_rfl) (by kernel_rfl) (fun _ _ _ h => h) (Or.inr ⟨by rfl, rfl⟩) (by assumption) ?_
                  try simp only [Act.put, List.setIfInBounds_toArray, List.set_cons_zero, List.set_cons_succ]
                  refine wpAnyH_takeL 15 (v := undef) (by kernel_rfl) rfl (by kernel_rfl) (by kernel_rfl) (fun _ _ _ h => h) (Or.inr ⟨by rfl, rfl⟩) (by assumption) ?_
                  try simp only [Act.put, List.setIfInBounds_toArray, List.set_cons_zero, List.set_cons_succ]
                  refine wpAnyH_takeL 16 (v := undef) (by kernel_rfl) rfl (by kernel_rfl) (by kernel_rfl) (fun _ _ _ h => h) (Or.inr ⟨by rfl, rfl⟩) (by assumption) ?_
                  try simp only [Act.put, List.setIfInBounds_toArray, List.set_cons_zero, List.set_cons_succ]
                  refine wpAnyH_takeL 17 (v := ?_) (by kernel_rfl) rfl (by kernel_rfl) (by kernel_rfl) (fun _ _ _ h => h) (Or.inl ⟨by rfl, ?_⟩) (by assumption) ?_
                  rotate_left
                  · (intro wq hSq; (try dsimp only at hSq); go_simp; try with_reducible rfl)
                  try simp only [Act.put, List.setIfInBounds_toArray, List.set_cons_zero, List.set_cons_succ]
                  refine wpAnyH_takeL 18 (v := ?_) (by kernel_rfl) rfl (by kernel_rfl) (by kernel_rfl) (fun _ _ _ h => h) (Or.inl ⟨by rfl, ?_⟩) (by assumption) ?_
                  rotate_left
                  · (intro wq hSq; (try dsimp only at hSq); go_simp; try with_reducible rfl)
                  try simp only [Act.put, List.setIfInBounds_toArray, List.set_cons_zero, List.set_cons_succ]
                  refine wpAnyH_takeL 19 (v := ?_) (by kernel_rfl) rfl (by kernel_rfl) (by kernel_rfl) (fun _ _ _ h => h) (Or.inl ⟨by rfl, ?_⟩) (by assumption) ?_
                  rotate_left
                  · (intro wq hSq; (try dsimp only at hSq); go_simp; try with_reducible rfl)
                  try simp only [Act.put, List.setIfInBounds_toArray, List.set_cons_zero, List.set_cons_succ]
                  refine wpAnyH_takeL 20 (v := ?_) (by kernel_rfl) rfl (by kernel_rfl) (by kernel_rfl) (fun _ _ _ h => h) (Or.inl ⟨by rfl, ?_⟩) (by assumption) ?_
                  rotate_left
                  · (intro wq hSq; (try dsimp only at hSq); go_simp; try with_reducible rfl)
                  try simp only [Act.put, List.setIfInBounds_toArray, List.set_cons_zero, List.set_cons_succ]
                  refine wpAnyH_takeL 21 (v := ?_) (by kernel_rfl) rfl (by kernel_rfl) (by kernel_rfl) (fun _ _ _ h => h) (Or.inl ⟨by rfl, ?_⟩) (by assumption) ?_
                  rotate_left
                  · (intro wq hSq; (try dsimp only at hSq); go_simp; try with_reducible rfl)
                  try simp only [Act.put, List.setIfInBounds_toArray, List.set_cons_zero, List.set_cons_succ]
                  refine wpAnyH_takeL 22 (v := ?_) (by kernel_rfl) rfl (by kernel_rfl) (by kernel_rfl) (fun _ _ _ h => h) (Or.inl ⟨by rfl, ?_⟩) (by assumption) ?_
                  rotate_left
                  · (intro wq hSq; (try dsimp only at hSq); go_simp; try with_reducible rfl)
                  try simp only [Act.put, List.setIfInBounds_toArray, List.set_cons_zero, List.set_cons_succ]
                  refine wpAnyH_takeL 23 (v := ?_) (by kernel_rfl) rfl (by kernel_rfl) (by kernel_rfl) (fun _ _ _ h => h) (Or.inl ⟨by rfl, ?_⟩) (by assumption) ?_
                  rotate_left
                  · (intro wq hSq; (try dsimp only at hSq); go_simp; try with_reducible rfl)
                  try simp only [Act.put, List.setIfInBounds_toArray, List.set_cons_zero, List.set_cons_succ]
                  refine wpAnyH_takeL 24 (v := ?_) (by kernel_rfl) rfl (by kernel_rfl) (by kernel_rfl) (fun _ _ _ h => h) (Or.inl ⟨by rfl, ?_⟩) (by assumption) ?_
                  rotate_left
                  · (intro wq hSq; (try dsimp only at hSq); go_simp; try with_reducible rfl)
                  try simp only [Act.put, List.setIfInBounds_toArray, List.set_cons_zero, List.set_cons_succ]
                  refine wpAnyH_takeL 25 (v := ?_) (by kernel_rfl) rfl (by kernel_rfl) (by kernel_rfl) (fun _ _ _ h => h) (Or.inl ⟨by rfl, ?_⟩) (by assumption) ?_
                  rotate_left
                  · (intro wq hSq; (try dsimp only at hSq); go_simp; try with_reducible rfl)
                  try simp only [Act.put, List.setIfInBounds_toArray, List.set_cons_zero, List.set_cons_succ]
                  refine wpAnyH_takeL 26 (v := ?_) (by kernel_rfl) rfl (by kernel_rfl) (by kernel_rfl) (fun _ _ _ h => h) (Or.inl ⟨by rfl, ?_⟩) (by assumption) ?_
                  rotate_left
                  · (intro wq hSq; (try dsimp only at hSq); go_simp; try with_reducible rfl)
                  try simp only [Act.put, List.setIfInBounds_toArray, List.set_cons_zero, List.set_cons_succ]
                  refine wpAnyH_takeL 27 (v := ?_) (by kernel_rfl) rfl (by kernel_rfl) (by kernel_rfl) (fun _ _ _ h => h) (Or.inl ⟨by rfl, ?_⟩) (by assumption) ?_
                  rotate_left
                  · (intro wq hSq; (try dsimp only at hSq); go_simp; try with_reducible rfl)
                  try simp only [Act.put, List.setIfInBounds_toArray, List.set_cons_zero, List.set_cons_succ]
                  refine wpAnyH_takeL 28 (v := ?_) (by kernel_rfl) rfl (by kernel_rfl) (by kernel_rfl) (fun _ _ _ h => h) (Or.inl ⟨by rfl, ?_⟩) (by assumption) ?_
                  rotate_left
                  · (intro wq hSq; (try dsimp only at hSq); go_simp; try with_reducible rfl)
                  try simp only [Act.put, List.setIfInBounds_toArray, List.set_cons_zero, List.set_cons_succ]
                  refine wpAnyH_takeL 29 (v := ?_) (by kernel_rfl) rfl (by kernel_rfl) (by kernel_rfl) (fun _ _ _ h => h) (Or.inl ⟨by rfl, ?_⟩) (by assumption) ?_
                  rotate_left
                  · (intro wq hSq; (try dsimp only at hSq); go_simp; try with_reducible rfl)
                  try simp only [Act.put, List.setIfInBounds_toArray, List.set_cons_zero, List.set_cons_succ]
                  refine wpAnyH_takeL 30 (v := ?_) (by kernel_rfl) rfl (by kernel_rfl) (by kernel_rfl) (fun _ _ _ h => h) (Or.inl ⟨by rfl, ?_⟩) (by assumption) ?_
                  rotate_left
                  · (intro wq hSq; (try dsimp only at hSq); go_simp; try with_reducible rfl)
                  try simp only [Act.put, List.setIfInBounds_toArray, List.set_cons_zero, List.set_cons_succ]
                  refine wpAnyH_takeL 31 (v := ?_) (by kernel_rfl) rfl (by kernel_rfl) (by kernel_rfl) (fun _ _ _ h => h) (Or.inl ⟨by rfl, ?_⟩) (by assumption) ?_
                  rotate_left
                  · (intro wq hSq; (try dsimp only at hSq); go_simp; try with_reducible rfl)
                  try simp only [Act.put, List.setIfInBounds_toArray, List.set_cons_zero, List.set_cons_succ]
                  refine wpAnyH_takeL 32 (v := ?_) (by kernel_rfl) rfl (by kernel_rfl) (by kernel_rfl) (fun _ _ _ h => h) (Or.inl ⟨by rfl, ?_⟩) (by assumption) ?_
                  rotate_left
                  · (intro wq hSq; (try dsimp only at hSq); go_simp; try with_reducible rfl)
                  try simp only [Act.put, List.setIfInBounds_toArray, List.set_cons_zero, List.set_cons_succ]
                  refine wpAnyH_takeL 33 (v := ?_) (by kernel_rfl) rfl (by kernel_rfl) (by kernel_rfl) (fun _ _ _ h => h) (Or.inl ⟨by rfl, ?_⟩) (by assumption) ?_
                  rotate_left
                  · (intro wq hSq; (try dsimp only at hSq); go_simp; try with_reducible rfl)
                  try simp only [Act.put, List.setIfInBounds_toArray, List.set_cons_zero, List.set_cons_succ]
                  refine wpAnyH_takeL 34 (v := ?_) (by kernel_rfl) rfl (by kernel_rfl) (by kernel_rfl) (fun _ _ _ h => h) (Or.inl ⟨by rfl, ?_⟩) (by assumption) ?_
                  rotate_left
                  · (intro wq hSq; (try dsimp only at hSq); go_simp; try with_reducible rfl)
                  try simp only [Act.put, List.setIfInBounds_toArray, List.set_cons_zero, List.set_cons_succ]
                  refine wpAnyH_takeL 35 (v := ?_) (by kernel_rfl) rfl (by kernel_rfl) (by kernel_rfl) (fun _ _ _ h => h) (Or.inl ⟨by rfl, ?_⟩) (by assumption) ?_
                  rotate_left
                  · (intro wq hSq; (try dsimp only at hSq); go_simp; try with_reducible rfl)
                  try simp only [Act.put, List.setIfInBounds_toArray, List.set_cons_zero, List.set_cons_succ]
                  refine wpAnyH_takeL 36 (v := ?_) (by kernel_rfl) rfl (by kernel_rfl) (by kernel_rfl) (fun _ _ _ h => h) (Or.inl ⟨by rfl, ?_⟩) (by assumption) ?_
                  rotate_left
                  · (intro wq hSq; (try dsimp only at hSq); go_simp; try with_reducible rfl)
                  try simp only [Act.put, List.setIfInBounds_toArray, List.set_cons_zero, List.set_cons_succ]
                  refine wpAnyH_takeL 37 (v := ?_) (by kernel_rfl) rfl (by kernel_rfl) (by kernel_rfl) (fun _ _ _ h => h) (Or.inl ⟨by rfl, ?_⟩) (by assumption) ?_
                  rotate_left
                  · (intro wq hSq; (try dsimp only at hSq); go_simp; try with_reducible rfl)
                  try simp only [Act.put, List.setIfInBounds_toArray, List.set_cons_zero, List.set_cons_succ]
                  refine wpAnyH_takeL 38 (v := ?_) (by kernel_rfl) rfl (by kernel_rfl) (by kernel_rfl) (fun _ _ _ h => h) (Or.inl ⟨by rfl, ?_⟩) (by assumption) ?_
                  rotate_left
                  · (intro wq hSq; (try dsimp only at hSq); go_simp; try with_reducible rfl)
                  try simp only [Act.put, List.setIfInBounds_toArray, List.set_cons_zero, List.set_cons_succ]
                  refine wpAnyH_end (by kernel_rfl) ?_
                  clear hHeld
                  go_wp2_with fail
                  go_roundw
                  case rel => exact ⟨i + 1, by omega, by go_num, HO3.out, HA3.out⟩
                  case measure => simp [intOf]; omega
              · obtain rfl : i = nn := by omega
                have q1 : ¬ (i : Int) + 1 < (n2 : Int) := by omega
                have q2 : ¬ (n2 : Int) < (i : Int) - 1 := by omega
                go_wp2_with fail
                go_roundw
                case rel => exact ⟨k + 1, x2, v2, by omega, by go_num, hOi.out⟩
                case measure => simp [intOf]; omega
        subst hm2
        have HF := Lib.hid HOc.out.up.fine
        have HTK := Lib.hid (Take_did ⟨p, dp, b0, b1⟩ v x wc HOc.out.qd)
        obtain ⟨KP, TK⟩ := take_kept (k9 := False) HOc.out.up
        have HKU := Lib.hid KP.up
        have hbo := best_ok x.q.jobs
        obtain ⟨T, hT⟩ : ∃ T, T = x.take := ⟨_, rfl⟩
        rw [← hT] at HTK TK HKU
        obtain ⟨⟨j0, ok, er⟩, x2⟩ := T
        dsimp only at HTK TK HKU
        obtain ⟨nn, hnn⟩ : ∃ nn, nn = x.q.jobs.length := ⟨_, rfl⟩
        rw [← hnn] at hlen ⊢
        have HNN := Lib.hid hnn
        clear hT KP hnn
        rcases TK with ⟨h5, hok⟩ | ⟨h0, hok, hb⟩ | ⟨h0, hok, kb, pb, jb, hb, hjb, hj0⟩
        · as_aux_lemma =>
            subst h5 hok
            clear hbo
            unfold Jb.val Jb.cells strV at HTK
            go_wp2_with fail
            refine HTK.out.mono ?_
            rintro e wd ⟨rfl, v2, hq2, hs2⟩
            have HOd := HOc.out.stp hq2 hs2 HKU.out
            have HASd := HAS.out.stp hs2
            obtain ⟨b13, hb13⟩ : ∃ b, b = wd.heap.size := ⟨_, rfl⟩
            obtain ⟨W2, hW2⟩ : ∃ W, W = wd.alloc (.cells #[.int .i64 (j0.id : Int), .string (bytesOf j0.client), .string (bytesOf j0.token), .int .i64 (j0.prio : Int), .int .i64 (j0.state : Int), .int .i64 (j0.tries : Int), .string (bytesOf j0.work), .string (bytesOf j0.point), .string (bytesOf j0.result)] 38) := ⟨_, rfl⟩
            have hb2 : Below wd.heap.size wd W2 := by rw [hW2]; exact (Below.refl _ wd).alloc (Nat.le_refl _) _
            have bx2 : BoxAt W2 b13 j0 := by rw [hW2, hb13]; exact alloc_last _ _ rfl
            have HO2 := Lib.hid (HOd.below hb2)
            have HA2 := Lib.hid (HASd.below hb2)
            have HBJ := Lib.hid bx2
            have HW2 := Lib.hid hW2
            have HB13 := Lib.hid hb13
            clear hq2 hs2 HTK c0 c1 c2 c3 c4 c5 HOc HAS HOd HASd hb2 bx2 hW2 hb13
            go_upto_region 23 with (fail)
            rw [← HW2.out, ← HB13.out]
            clear HW2 HB13
            go_wp2_with fail
            go_roundw
            case rel => exact ⟨k + 1, x2, v2, by omega, by go_num, HO2.out⟩
            case measure => simp [intOf]; omega
        · as_aux_lemma =>
            subst h0 hok
            rw [hb] at hbo
            have HBO := Lib.hid hbo
            clear hb hbo
            unfold Jb.val Jb.cells strV at HTK
            go_wp2_with fail
            refine HTK.out.mono ?_
            rintro e wd ⟨rfl, v2, hq2, hs2⟩
            have HOd := HOc.out.stp hq2 hs2 HKU.out
            have HASd := HAS.out.stp hs2
            obtain ⟨b13, hb13⟩ : ∃ b, b = wd.heap.size := ⟨_, rfl⟩
            obtain ⟨W2, hW2⟩ : ∃ W, W = wd.alloc (.cells #[.int .i64 (j0.id : Int), .string (bytesOf j0.client), .string (bytesOf j0.token), .int .i64 (j0.prio : Int), .int .i64 (j0.state : Int), .int .i64 (j0.tries : Int), .string (bytesOf j0.work), .string (bytesOf j0.point), .string (bytesOf j0.result)] 38) := ⟨_, rfl⟩
            have hb2 : Below wd.heap.size wd W2 := by rw [hW2]; exact (Below.refl _ wd).alloc (Nat.le_refl _) _
            have bx2 : BoxAt W2 b13 j0 := by rw [hW2, hb13]; exact alloc_last _ _ rfl
            have HO2 := Lib.hid (HOd.below hb2)
            have HA2 := Lib.hid (HASd.below hb2)
            have HBJ := Lib.hid bx2
            have HW2 := Lib.hid hW2
            have HB13 := Lib.hid hb13
            clear hq2 hs2 HTK c0 c1 c2 c3 c4 c5 HOc HAS HOd HASd hb2 bx2 hW2 hb13
            go_upto_region 23 with (fail)
            rw [← HW2.out, ← HB13.out]
            clear HW2 HB13
            go_wp2_with fail
            go_loopw [16, 17, 18] (fun iv _ _ wr => ∃ i : Nat, i ≤ nn ∧ iv = .int .i64 (i : Int) ∧ Hid (Below W2.heap.size W2 wr)) (fun iv _ _ _ => nn - (intOf iv).toNat)
            case atStart => exact ⟨0, Nat.zero_le _, rfl, Below.refl _ _⟩
            case round =>
              obtain ⟨i, hi, rfl, hB⟩ := hrel
              by_cases hilt : i < nn
              · obtain ⟨y, hy⟩ : ∃ y, x.q.jobs[i]? = some y := ⟨_, List.getElem?_eq_getElem (by rw [← HNN.out]; exact hilt)⟩
                have hA2 := HA2.out.below hB.out
                obtain ⟨g, hge, hgc⟩ := hA2.job i y hy
                subst hge
                have c0 : wr.cell? ⟨g, i * 9, none⟩ = some (.int .i64 y.id) := hgc 0 _ (by omega) rfl
                have c1 : wr.cell? ⟨g, i * 9 + 1, none⟩ = some (.string (bytesOf y.client)) := hgc 1 _ (by omega) rfl
                have c2 : wr.cell? ⟨g, i * 9 + 2, none⟩ = some (.string (bytesOf y.token)) := hgc 2 _ (by omega) rfl
                have c3 : wr.cell? ⟨g, i * 9 + 3, none⟩ = some (.int .i64 y.prio) := hgc 3 _ (by omega) rfl
                have c4 : wr.cell? ⟨g, i * 9 + 4, none⟩ = some (.int .i64 y.state) := hgc 4 _ (by omega) rfl
                have c5 : wr.cell? ⟨g, i * 9 + 5, none⟩ = some (.int .i64 y.tries) := hgc 5 _ (by omega) rfl
                have c6 : wr.cell? ⟨g, i * 9 + 6, none⟩ = some (.string (bytesOf y.work)) := hgc 6 _ (by omega) rfl
                have c7 : wr.cell? ⟨g, i * 9 + 7, none⟩ = some (.string (bytesOf y.point)) := hgc 7 _ (by omega) rfl
                have c8 : wr.cell? ⟨g, i * 9 + 8, none⟩ = some (.string (bytesOf y.result)) := hgc 8 _ (by omega) rfl
                obtain ⟨b17, hb17⟩ : ∃ b, b = wr.heap.size := ⟨_, rfl⟩
                obtain ⟨W3, hW3⟩ : ∃ W, W = wr.alloc (.cells #[.int .i64 (y.id : Int), .string (bytesOf y.client), .string (bytesOf y.token), .int .i64 (y.prio : Int), .int .i64 (y.state : Int), .int .i64 (y.tries : Int), .string (bytesOf y.work), .string (bytesOf y.point), .string (bytesOf y.result)] 38) := ⟨_, rfl⟩
                have hb3 : Below wr.heap.size wr W3 := by rw [hW3]; exact (Below.refl _ wr).alloc (Nat.le_refl _) _
                have bx3 : BoxAt W3 b17 y := by rw [hW3, hb17]; exact alloc_last _ _ rfl
                have HB3 := Lib.hid (hB.out.trans (hb3.mono hB.out.size))
                have bj3 := HBJ.out.below HB3.out
                obtain ⟨d0, -, -, d3, d4, d5, -, -, -⟩ := bx3.all
                obtain ⟨e0, -, -, e3, e4, e5, -, -, -⟩ := bj3.all
                have HY := Lib.hid hy
                have hyo := HF.out.ok.job y (List.mem_of_getElem? hy)
                have hytr := hyo.tr
                have HW3 := Lib.hid hW3
                have HB17 := Lib.hid hb17
                clear hA2 hgc hb3 bx3 bj3 hW3 hb17 hy hyo hB
                go_upto_region 30 with (fail)
                rw [← HW3.out, ← HB17.out]
                clear HW3 HB17 c0 c1 c2 c3 c4 c5 c6 c7 c8
                by_cases hs1 : y.state = 1
                case neg =>
                  have q1 : ((y.state : Int) == 1) = false := by rw [beq_eq_false_iff_ne]; omega
                  clear hs1
                  go_wp2_with fail
                  go_roundw
                  case rel => exact ⟨i + 1, by omega, by go_num, HB3.out⟩
                  case measure => simp [intOf]; omega
                by_cases ht8 : y.tries < 8
                case neg =>
                  have q1 : ((y.state : Int) == 1) = true := by rw [hs1]; rfl
                  have q2 : decide ((y.tries : Int) < 8) = false := decide_eq_false (by omega)
                  clear hs1 ht8
                  go_wp2_with fail
                  go_roundw
                  case rel => exact ⟨i + 1, by omega, by go_num, HB3.out⟩
                  case measure => simp [intOf]; omega
                exfalso
                obtain ⟨mm, pp, hmp, -⟩ := HBO.out.top i y HY.out hs1 ht8
                cases hmp
              · obtain rfl : i = nn := by omega
                have HO9 := Lib.hid (HO2.out.below hB.out)
                go_wp2_with fail
                go_roundw
                case rel => exact ⟨k + 1, x2, v2, by omega, by go_num, HO9.out⟩
                case measure => simp [intOf]; omega
        · as_aux_lemma =>
            subst h0 hok hj0
            rw [hb] at hbo
            obtain ⟨jb', hjb', hpb, hs1, ht8⟩ := hbo.get kb pb rfl
            obtain rfl : jb = jb' := Option.some.inj (hjb.symm.trans hjb')
            subst hpb
            have HBO := Lib.hid hbo
            have HJB := Lib.hid hjb
            have HJS : Hid (jb.state = 1 ∧ jb.tries < 8) := Lib.hid ⟨hs1, ht8⟩
            clear hb hbo hjb hjb' hs1 ht8
            unfold Jb.val Jb.cells strV at HTK
            go_wp2_with fail
            refine HTK.out.mono ?_
            rintro e wd ⟨rfl, v2, hq2, hs2⟩
            have HOd := HOc.out.stp hq2 hs2 HKU.out
            have HASd := HAS.out.stp hs2
            obtain ⟨b13, hb13⟩ : ∃ b, b = wd.heap.size := ⟨_, rfl⟩
            obtain ⟨W2, hW2⟩ : ∃ W, W = wd.alloc (.cells #[.int .i64 (jb.id : Int), .string (bytesOf jb.client), .string (bytesOf jb.token), .int .i64 (jb.prio : Int), .int .i64 2, .int .i64 ((jb.tries : Int) + 1), .string (bytesOf jb.work), .string (bytesOf jb.point), .string (bytesOf jb.result)] 38) := ⟨_, rfl⟩
            have hb2 : Below wd.heap.size wd W2 := by rw [hW2]; exact (Below.refl _ wd).alloc (Nat.le_refl _) _
            have bx2 : BoxAt W2 b13 { jb with tries := jb.tries + 1, state := 2 } := by rw [hW2, hb13]; exact alloc_last _ _ rfl
            have HO2 := Lib.hid (HOd.below hb2)
            have HA2 := Lib.hid (HASd.below hb2)
            have HBJ := Lib.hid bx2
            have HW2 := Lib.hid hW2
            have HB13 := Lib.hid hb13
            clear hq2 hs2 HTK c0 c1 c2 c3 c4 c5 HOc HAS HOd HASd hb2 bx2 hW2 hb13
            go_upto_region 23 with (fail)
            rw [← HW2.out, ← HB13.out]
            clear HW2 HB13
            go_wp2_with fail
            go_loopw [16, 17, 18] (fun iv _ _ wr => ∃ i : Nat, i ≤ nn ∧ iv = .int .i64 (i : Int) ∧ Hid (Below W2.heap.size W2 wr)) (fun iv _ _ _ => nn - (intOf iv).toNat)
            case atStart => exact ⟨0, Nat.zero_le _, rfl, Below.refl _ _⟩
            case round =>
              obtain ⟨i, hi, rfl, hB⟩ := hrel
              by_cases hilt : i < nn
              · obtain ⟨y, hy⟩ : ∃ y, x.q.jobs[i]? = some y := ⟨_, List.getElem?_eq_getElem (by rw [← HNN.out]; exact hilt)⟩
                have hA2 := HA2.out.below hB.out
                obtain ⟨g, hge, hgc⟩ := hA2.job i y hy
                subst hge
                have c0 : wr.cell? ⟨g, i * 9, none⟩ = some (.int .i64 y.id) := hgc 0 _ (by omega) rfl
                have c1 : wr.cell? ⟨g, i * 9 + 1, none⟩ = some (.string (bytesOf y.client)) := hgc 1 _ (by omega) rfl
                have c2 : wr.cell? ⟨g, i * 9 + 2, none⟩ = some (.string (bytesOf y.token)) := hgc 2 _ (by omega) rfl
                have c3 : wr.cell? ⟨g, i * 9 + 3, none⟩ = some (.int .i64 y.prio) := hgc 3 _ (by omega) rfl
                have c4 : wr.cell? ⟨g, i * 9 + 4, none⟩ = some (.int .i64 y.state) := hgc 4 _ (by omega) rfl
                have c5 : wr.cell? ⟨g, i * 9 + 5, none⟩ = some (.int .i64 y.tries) := hgc 5 _ (by omega) rfl
                have c6 : wr.cell? ⟨g, i * 9 + 6, none⟩ = some (.string (bytesOf y.work)) := hgc 6 _ (by omega) rfl
                have c7 : wr.cell? ⟨g, i * 9 + 7, none⟩ = some (.string (bytesOf y.point)) := hgc 7 _ (by omega) rfl
                have c8 : wr.cell? ⟨g, i * 9 + 8, none⟩ = some (.string (bytesOf y.result)) := hgc 8 _ (by omega) rfl
                obtain ⟨b17, hb17⟩ : ∃ b, b = wr.heap.size := ⟨_, rfl⟩
                obtain ⟨W3, hW3⟩ : ∃ W, W = wr.alloc (.cells #[.int .i64 (y.id : Int), .string (bytesOf y.client), .string (bytesOf y.token), .int .i64 (y.prio : Int), .int .i64 (y.state : Int), .int .i64 (y.tries : Int), .string (bytesOf y.work), .string (bytesOf y.point), .string (bytesOf y.result)] 38) := ⟨_, rfl⟩
                have hb3 : Below wr.heap.size wr W3 := by rw [hW3]; exact (Below.refl _ wr).alloc (Nat.le_refl _) _
                have bx3 : BoxAt W3 b17 y := by rw [hW3, hb17]; exact alloc_last _ _ rfl
                have HB3 := Lib.hid (hB.out.trans (hb3.mono hB.out.size))
                have bj3 := HBJ.out.below HB3.out
                obtain ⟨d0, -, -, d3, d4, d5, -, -, -⟩ := bx3.all
                obtain ⟨e0, -, -, e3, e4, e5, -, -, -⟩ := bj3.all
                have HY := Lib.hid hy
                have hyo := HF.out.ok.job y (List.mem_of_getElem? hy)
                have hytr := hyo.tr
                have HW3 := Lib.hid hW3
                have HB17 := Lib.hid hb17
                clear hA2 hgc hb3 bx3 bj3 hW3 hb17 hy hyo hB
                go_upto_region 30 with (fail)
                rw [← HW3.out, ← HB17.out]
                clear HW3 HB17 c0 c1 c2 c3 c4 c5 c6 c7 c8
                have e5' : W3.cell? ⟨b13, 5, none⟩ = some (.int .i64 ((jb.tries : Int) + 1)) := e5
                have e4' : W3.cell? ⟨b13, 4, none⟩ = some (.int .i64 2) := e4
                clear e4 e5
                by_cases hid : y.id = jb.id
                · have hyj : jb = y := by
                    have hp := List.pairwise_iff_getElem.1 HF.out.ok.asc
                    obtain ⟨h1, h2⟩ := List.getElem?_eq_some_iff.1 HY.out
                    obtain ⟨h3, h4⟩ := List.getElem?_eq_some_iff.1 HJB.out
                    rcases Nat.lt_trichotomy i kb with q | q | q
                    · have := hp i kb h1 h3 q
                      rw [h2, h4] at this; omega
                    · subst q
                      rw [← h2, ← h4]
                    · have := hp kb i h3 h1 q
                      rw [h2, h4] at this; omega
                  subst hyj
                  obtain ⟨hs1, ht8⟩ := HJS.out
                  have q1 : (jb.state : Int) = 1 := by omega
                  have q2 : (jb.tries : Int) < 8 := by omega
                  have q3 : ¬ (8 : Int) < (jb.tries : Int) + 1 := by omega
                  have q4 : ¬ (8 : Int) ≤ (jb.tries : Int) := by omega
                  have q5 : wrap64 ((jb.tries : Int) + 1) = (jb.tries : Int) + 1 := IntWalk.wrap64_in _ ⟨by omega, by omega⟩
                  clear hid hs1 ht8
                  go_wp2_with fail
                  go_roundw
                  case rel => exact ⟨i + 1, by omega, by go_num, HB3.out⟩
                  case measure => simp [intOf]; omega
                have q0 : ((y.id : Int) == (jb.id : Int)) = false := by rw [beq_eq_false_iff_ne]; omega
                by_cases hs1 : y.state = 1
                case neg =>
                  as_aux_lemma =>
                    by_cases hp1 : jb.prio < y.prio
                    · have q1 : ((y.state : Int) == 1) = false := by rw [beq_eq_false_iff_ne]; omega
                      have p1 : (jb.prio : Int) < (y.prio : Int) := by omega
                      clear hs1 hp1 hid
                      go_wp2_with fail
                      go_roundw
                      case rel => exact ⟨i + 1, by omega, by go_num, HB3.out⟩
                      case measure => simp [intOf]; omega
                    have p1 : ¬ (jb.prio : Int) < (y.prio : Int) := by omega
                    by_cases hp2 : y.prio = jb.prio
                    · have p2 : ((y.prio : Int) == (jb.prio : Int)) = true := by rw [hp2]; simp
                      by_cases hp3 : y.id < jb.id
                      · have q1 : ((y.state : Int) == 1) = false := by rw [beq_eq_false_iff_ne]; omega
                        have p3 : (y.id : Int) < (jb.id : Int) := by omega
                        clear hs1 hp1 hp2 hp3 hid
                        go_wp2_with fail
                        go_roundw
                        case rel => exact ⟨i + 1, by omega, by go_num, HB3.out⟩
                        case measure => simp [intOf]; omega
                      · have q1 : ((y.state : Int) == 1) = false := by rw [beq_eq_false_iff_ne]; omega
                        have p3 : ¬ (y.id : Int) < (jb.id : Int) := by omega
                        clear hs1 hp1 hp2 hp3 hid
                        go_wp2_with fail
                        go_roundw
                        case rel => exact ⟨i + 1, by omega, by go_num, HB3.out⟩
                        case measure => simp [intOf]; omega
                    · have q1 : ((y.state : Int) == 1) = false := by rw [beq_eq_false_iff_ne]; omega
                      have p2 : ((y.prio : Int) == (jb.prio : Int)) = false := by rw [beq_eq_false_iff_ne]; omega
                      clear hs1 hp1 hp2 hid
                      go_wp2_with fail
                      go_roundw
                      case rel => exact ⟨i + 1, by omega, by go_num, HB3.out⟩
                      case measure => simp [intOf]; omega
                by_cases ht8 : y.tries < 8
                case neg =>
                  as_aux_lemma =>
                    by_cases hp1 : jb.prio < y.prio
                    · have q1 : ((y.state : Int) == 1) = true := by rw [hs1]; rfl
                      have q2 : decide ((y.tries : Int) < 8) = false := decide_eq_false (by omega)
                      have p1 : (jb.prio : Int) < (y.prio : Int) := by omega
                      clear hs1 ht8 hp1 hid
                      go_wp2_with fail
                      go_roundw
                      case rel => exact ⟨i + 1, by omega, by go_num, HB3.out⟩
                      case measure => simp [intOf]; omega
                    have p1 : ¬ (jb.prio : Int) < (y.prio : Int) := by omega
                    by_cases hp2 : y.prio = jb.prio
                    · have p2 : ((y.prio : Int) == (jb.prio : Int)) = true := by rw [hp2]; simp
                      by_cases hp3 : y.id < jb.id
                      · have q1 : ((y.state : Int) == 1) = true := by rw [hs1]; rfl
                        have q2 : decide ((y.tries : Int) < 8) = false := decide_eq_false (by omega)
                        have p3 : (y.id : Int) < (jb.id : Int) := by omega
                        clear hs1 ht8 hp1 hp2 hp3 hid
                        go_wp2_with fail
                        go_roundw
                        case rel => exact ⟨i + 1, by omega, by go_num, HB3.out⟩
                        case measure => simp [intOf]; omega
                      · have q1 : ((y.state : Int) == 1) = true := by rw [hs1]; rfl
                        have q2 : decide ((y.tries : Int) < 8) = false := decide_eq_false (by omega)
                        have p3 : ¬ (y.id : Int) < (jb.id : Int) := by omega
                        clear hs1 ht8 hp1 hp2 hp3 hid
                        go_wp2_with fail
                        go_roundw
                        case rel => exact ⟨i + 1, by omega, by go_num, HB3.out⟩
                        case measure => simp [intOf]; omega
                    · have q1 : ((y.state : Int) == 1) = true := by rw [hs1]; rfl
                      have q2 : decide ((y.tries : Int) < 8) = false := decide_eq_false (by omega)
                      have p2 : ((y.prio : Int) == (jb.prio : Int)) = false := by rw [beq_eq_false_iff_ne]; omega
                      clear hs1 ht8 hp1 hp2 hid
                      go_wp2_with fail
                      go_roundw
                      case rel => exact ⟨i + 1, by omega, by go_num, HB3.out⟩
                      case measure => simp [intOf]; omega
                obtain ⟨mm, pp, hmp, htop⟩ := HBO.out.top i y HY.out hs1 ht8
                injection hmp with hmp
                injection hmp with hm1 hm2
                subst hm1 hm2
                have q1 : ((y.state : Int) == 1) = true := by rw [hs1]; rfl
                have q2 : (y.tries : Int) < 8 := by omega
                have p1 : ¬ (jb.prio : Int) < (y.prio : Int) := by omega
                by_cases hp2 : y.prio = jb.prio
                · have p2 : ((y.prio : Int) == (jb.prio : Int)) = true := by rw [hp2]; simp
                  have p3 : ¬ (y.id : Int) < (jb.id : Int) := by
                    have hle : kb ≤ i := by omega
                    have hp := List.pairwise_iff_getElem.1 HF.out.ok.asc
                    obtain ⟨h1, h2⟩ := List.getElem?_eq_some_iff.1 HY.out
                    obtain ⟨h3, h4⟩ := List.getElem?_eq_some_iff.1 HJB.out
                    rcases Nat.lt_or_ge kb i with q | q
                    · have := hp kb i h3 h1 q
                      rw [h2, h4] at this; omega
                    · have : kb = i := by omega
                      subst this
                      rw [← h2, ← h4]; omega
                  clear hs1 ht8 hid hp2 htop
                  go_wp2_with fail
                  go_roundw
                  case rel => exact ⟨i + 1, by omega, by go_num, HB3.out⟩
                  case measure => simp [intOf]; omega
                · have p2 : ((y.prio : Int) == (jb.prio : Int)) = false := by rw [beq_eq_false_iff_ne]; omega
                  clear hs1 ht8 hid hp2 htop
                  go_wp2_with fail
                  go_roundw
                  case rel => exact ⟨i + 1, by omega, by go_num, HB3.out⟩
                  case measure => simp [intOf]; omega
              · obtain rfl : i = nn := by omega
                have HO9 := Lib.hid (HO2.out.below hB.out)
                go_wp2_with fail
                go_roundw
                case rel => exact ⟨k + 1, x2, v2, by omega, by go_num, HO9.out⟩
                case measure => simp [intOf]; omega
      · obtain rfl : k = n := by omega
        have HSH := Lib.hid (shown_any wr (HT.out.block (hO.out.bl.block _ HT.out.lt)))
        go_wp2_with fail
        refine HSH.out.mono ?_
        rintro e wz ⟨rfl, hbz⟩
        go_wp2_with fail
        go_ret
        exact ⟨rfl, hO.out.bl.trans (hbz.mono hO.out.le)⟩
end Go.Proofs.YtoggmplkbiidhaaDoor
