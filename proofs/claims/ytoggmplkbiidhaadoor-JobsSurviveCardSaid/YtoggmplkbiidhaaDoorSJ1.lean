/- Laws of the jobs: what survives a restart. -/
import Derived.Test.YtoggmplkbiidhaaDoorPY4
namespace Go.Proofs.YtoggmplkbiidhaaDoor
set_option linter.all false
open Go.RowKit Go.Shelf
set_option maxRecDepth 100000 in
set_option maxHeartbeats 8000000 in
theorem survive_law (z f : Int) (hz : -9223372036854775808 ≤ z ∧ z ≤ 9223372036854775807) (hf : -9223372036854775808 ≤ f ∧ f ≤ 9223372036854775807) (l : List JAct) (a : Option Addr) (cap : Nat) (hl : l.length ≤ maxLen) (w : World) (h : JActsAt w w.heap.size a l) (ht : TabAt w) :
    Calls Tryd.prog 5 #[.int .i64 z, .int .i64 f, .slice a l.length cap] w fun e w' => e = .returned (.bool true) ∧ Below w.heap.size w w' := by
  have HBY := Lib.hid (beyond_any l a cap hl w h)
  have HT := Lib.hid ht
  have HA := Lib.hid h
  obtain ⟨n, hn⟩ : ∃ n, n = l.length := ⟨_, rfl⟩
  rw [← hn] at HBY hl ⊢
  have HN := Lib.hid hn
  cases hby : beyondB l with
  | true =>
    rw [hby] at HBY
    have HSH := Lib.hid (shown_any w ht)
    clear hby hn h ht hz hf
    go_enter Tryd.func5, Tryd.ntmps5
    go_wp2_with fail
    refine HBY.out.mono ?_
    rintro e w1 ⟨rfl, rfl⟩
    go_wp2_with fail
    refine HSH.out.mono ?_
    rintro e w2 ⟨rfl, hb2⟩
    go_wp2_with fail
    go_ret
    exact ⟨rfl, hb2⟩
  | false =>
    rw [hby] at HBY
    have hn80 : n ≤ 80 := by
      unfold beyondB at hby
      simp at hby
      omega
    have HPZ := Lib.hid (Pick_3800 z hz w)
    have HPF := Lib.hid (fun W => Pick_20000 f hf W)
    clear hby hn h ht hl hz hf
    go_enter Tryd.func5, Tryd.ntmps5
    go_wp2_with fail
    refine HBY.out.mono ?_
    rintro e w1 ⟨rfl, rfl⟩
    go_wp2_with fail
    refine HPZ.out.mono ?_
    rintro e w2 ⟨⟨kz, hkz, rfl⟩, rfl⟩
    obtain ⟨N, hN⟩ : ∃ N, N = 200 + kz := ⟨_, rfl⟩
    have hN1 : (200 : Int) + (kz : Int) = (N : Int) := by omega
    have hN2 : 64 ≤ N := by omega
    have hN3 : N ≤ 262144 := by omega
    have HN2 : Hid (64 ≤ N ∧ N ≤ 262144) := ⟨hN2, hN3⟩
    clear hN hkz HPZ HBY
    go_wp2_with fail
    refine (New_any N hN2 hN3 w1).mono ?_
    rintro e wa ⟨⟨dp, b0, b1, rfl, hd1, hp⟩, hba⟩
    have HD1 := Lib.hid hd1
    have HP1 := Lib.hid hp
    have HBA := Lib.hid hba
    clear hd1 hp hba
    go_wp2_with fail
    refine (New_any N hN2 hN3 wa).mono ?_
    rintro e wb ⟨⟨dq, c0, c1, rfl, hd2, hp⟩, hbb⟩
    have HD2 := Lib.hid hd2
    have HP2 := Lib.hid hp
    have HBB := Lib.hid hbb
    have HTB : Hid (TabAt wb) := HT.out.block ((HBA.out.trans (hbb.mono HBA.out.size)).block _ HT.out.lt)
    have HOP := Lib.hid (Open_any dp b0 b1 (newDk N) wb (HD1.out.kept hbb) (newDk_post N hN2 hN3).1.ok HTB.out)
    rw [(pair_new N hN2 hN3 0 (by omega) (by omega)).1] at HOP
    clear hd2 hp hbb hN1 hN2 hN3
    go_wp2_with fail
    refine HOP.out.mono ?_
    rintro e wxc ⟨hop, hbc⟩
    unfold OpenP at hop
    dsimp only at hop
    obtain ⟨p, u, rfl, hpp, hqd, hvv⟩ := hop
    have HQX := Lib.hid hqd
    have HPX : Hid (wb.heap.size ≤ p ∧ ∀ k, u.ownBlock = some k → wb.heap.size ≤ k) := ⟨hpp, hvv⟩
    have HBC := Lib.hid hbc
    have HOQ := Lib.hid (Open_any dq c0 c1 (newDk N) wxc (HD2.out.kept hbc) (newDk_post N HN2.out.1 HN2.out.2).1.ok (HTB.out.block (hbc.block _ HTB.out.lt)))
    rw [(pair_new N HN2.out.1 HN2.out.2 0 (by omega) (by omega)).1] at HOQ
    clear hpp hvv hqd hbc HOP
    go_wp2_with fail
    refine HOQ.out.mono ?_
    rintro e wxd ⟨hop, hbd⟩
    unfold OpenP at hop
    dsimp only at hop
    obtain ⟨r, v, rfl, hpp, hqd, hvv⟩ := hop
    have HTW : Hid (Two w1.heap.size ⟨p, dp, b0, b1⟩ ⟨r, dq, c0, c1⟩ u v ⟨⟨[], 0⟩, newDk N, false⟩ ⟨⟨[], 0⟩, newDk N, false⟩ w1 wxd) :=
      two_begin HD1.out HP1.out HBA.out HD2.out HP2.out HBB.out HQX.out HPX.out.1 HPX.out.2 HBC.out hqd hpp hvv hbd
    clear hpp hvv hqd hbd HOQ HD1 HP1 HBA HD2 HP2 HBB HQX HPX HBC HTB
    go_wp2_with fail
    refine (HPF.out wxd).mono ?_
    rintro e w2 ⟨⟨kf, hkf, rfl⟩, rfl⟩
    obtain ⟨-, pf, pg, pp⟩ := pair_new N HN2.out.1 HN2.out.2 (kf : Int) (by omega) (by omega)
    have HPA := Lib.hid pp
    have HPG := Lib.hid pg
    have HFU := Lib.hid (Fuse_any dp b0 b1 (newDk N) (kf : Int) wxd HTW.out.xa.dk)
    rw [pf] at HFU
    clear pf pg pp hkf HPF
    go_wp2_with fail
    refine HFU.out.mono ?_
    rintro e we ⟨rfl, hdf, hkf⟩
    have HT2 : Hid (Two w1.heap.size ⟨p, dp, b0, b1⟩ ⟨r, dq, c0, c1⟩ u v ⟨⟨[], 0⟩, { newDk N with fuse := (kf : Int) }, false⟩ ⟨⟨[], 0⟩, newDk N, false⟩ w1 we) :=
      HTW.out.left (HTW.out.xa.disk hkf hdf HPG.out) (Stp.of_kp (kp_three hkf))
    clear hdf hkf HFU HTW HPG
    obtain ⟨x, hx⟩ : ∃ x : Qst, x = ⟨⟨[], 0⟩, { newDk N with fuse := (kf : Int) }, false⟩ := ⟨_, rfl⟩
    obtain ⟨y, hy⟩ : ∃ y : Qst, y = ⟨⟨[], 0⟩, newDk N, false⟩ := ⟨_, rfl⟩
    rw [← hx, ← hy] at HPA HT2
    have HXN : Hid (x.list = [] ∧ x.q.jobs = [] ∧ y.list = []) := by rw [hx, hy]; exact ⟨rfl, rfl, rfl⟩
    have HL1 := Lib.hid (List_did ⟨p, dp, b0, b1⟩ u x we HT2.out.xa)
    clear hx hy
    go_wp2_with fail
    refine HL1.out.mono ?_
    rintro e wf ⟨⟨s, rfl, hs⟩, hbf⟩
    have HT3 := Lib.hid (HT2.out.below hbf)
    have HS3 : Hid (Lst ⟨p, dp, b0, b1⟩ ⟨r, dq, c0, c1⟩ u v s x.list wf) := Lst.new HT2.out hs
    have HL2 := Lib.hid (List_did ⟨r, dq, c0, c1⟩ v y wf HT3.out.ya)
    clear hs hbf HL1 HT2
    go_wp2_with fail
    refine HL2.out.mono ?_
    rintro e wg ⟨⟨s2, rfl, hs2⟩, hbg⟩
    have HT4 := Lib.hid (HT3.out.below hbg)
    have HS4 : Hid (Lst ⟨p, dp, b0, b1⟩ ⟨r, dq, c0, c1⟩ u v s x.q.jobs wg) := by
      have := HS3.out.below hbg
      rw [HXN.out.1] at this
      show Lst _ _ _ _ _ _ _
      rw [HXN.out.2.1]
      exact this
    clear hs2 hbg HL2 HT3 HS3
    go_upto_block 0 with fail
    go_cut [13, 14, 15, 16, 17, 18, 19] from 81 to 128 (fun sv _ lv _ _ _ _ wx => ∃ (s13 : Value) (L : Int), s13 = sv ∧ lv = .int .i64 L ∧ Hid (Fin w1.heap.size ⟨p, dp, b0, b1⟩ s13 L w1 wx))
    case first =>
      go_wp2_with fail
      go_loopw [13, 14, 15, 16, 17, 18, 19] (fun sv _ lv iv _ _ _ wr => ∃ (k : Nat) (x y : Qst) (u v : Value) (L : Nat), k ≤ n ∧ lv = .int .i64 (L : Int) ∧ iv = .int .i64 (k : Int) ∧ L ≤ x.q.last ∧ Hid (Two w1.heap.size ⟨p, dp, b0, b1⟩ ⟨r, dq, c0, c1⟩ u v x y w1 wr) ∧ Hid (Pair x y) ∧ Hid (Lst ⟨p, dp, b0, b1⟩ ⟨r, dq, c0, c1⟩ u v sv x.q.jobs wr)) (fun _ _ _ iv _ _ _ _ => n - (intOf iv).toNat)
      case atStart => exact ⟨0, x, y, u, v, 0, Nat.zero_le _, rfl, rfl, Nat.zero_le _, HT4.out, HPA.out, HS4.out⟩
      case round =>
        clear HT4 HPA HS4 HXN
        obtain ⟨k, x, y, u, v, L, hk, rfl, rfl, hL, hTW, hPR, hLS⟩ := hrel
        by_cases hlt : k < n
        · obtain ⟨ac, hac⟩ : ∃ ac, l[k]? = some ac := ⟨l[k]'(by rw [← HN.out]; exact hlt), List.getElem?_eq_getElem _⟩
          obtain ⟨ab, ao, hae, hab, -, -⟩ := HA.out k ac hac
          subst hae
          have HACT : Hid (∀ W, Below w1.heap.size w1 W → JActAt W ab (ao + k * 6) ac) := Lib.hid (fun W hW => by
            obtain ⟨b', o', h1, h2, h3, -⟩ := HA.out k ac hac
            injection h1 with h1
            injection h1 with h1 h4
            subst h1 h4
            exact h3.below hW h2)
          have HL1 := Lib.hid (List_did ⟨p, dp, b0, b1⟩ u x wr hTW.out.xa)
          have HXL : Hid (x.list = x.q.jobs) := by show _ = _; unfold Qst.list; rw [if_neg (by rw [hPR.out.nd]; simp)]
          rw [HXL.out] at HL1
          clear hac hLS
          go_wp2_with fail
          refine HL1.out.mono ?_
          rintro e wa ⟨⟨s5, rfl, hs5⟩, hb5⟩
          have HTa := Lib.hid (hTW.out.below hb5)
          have HSa : Hid (Lst ⟨p, dp, b0, b1⟩ ⟨r, dq, c0, c1⟩ u v s5 x.q.jobs wa) := Lst.new hTW.out hs5
          obtain ⟨e0, e1, e2, e3, e4, e5⟩ := HACT.out wa HTa.out.bl
          have HC := Lib.hid (call_any ⟨p, dp, b0, b1⟩ u x ac wa HTa.out.xa)
          have HOUT := Lib.hid (call_out hPR.out ac)
          obtain ⟨x2, hx2⟩ : ∃ x2, x2 = (x.call ac).2 := ⟨_, rfl⟩
          obtain ⟨q1, hq1⟩ : ∃ q1, q1 = (x.call ac).1 := ⟨_, rfl⟩
          rw [← hx2, ← hq1] at HC
          have HX2 := Lib.hid hx2
          have HQ1 := Lib.hid hq1
          unfold JAct.val at HC
          clear hs5 hb5 HL1 hTW hx2 hq1 HXL
          go_wp2_with fail
          refine HC.out.mono ?_
          rintro e wb ⟨rfl, u2, hxq, hst⟩
          have HTb := Lib.hid (HTa.out.left hxq hst)
          have HSb := Lib.hid (HSa.out.left hst)
          obtain ⟨g0, g1, g2, g3, g4, g5⟩ := HACT.out wb HTb.out.bl
          have HC2 := Lib.hid (call_any ⟨r, dq, c0, c1⟩ v y ac wb HTb.out.ya)
          obtain ⟨y2, hy2⟩ : ∃ y2, y2 = (y.call ac).2 := ⟨_, rfl⟩
          obtain ⟨q2, hq2⟩ : ∃ q2, q2 = (y.call ac).1 := ⟨_, rfl⟩
          rw [← hy2, ← hq2] at HC2
          have HY2 := Lib.hid hy2
          have HQ2 := Lib.hid hq2
          unfold JAct.val at HC2
          clear hxq hst HC HTa HSa e0 e1 e2 e3 e4 e5 hy2 hq2
          go_wp2_with fail
          refine HC2.out.mono ?_
          rintro e wc ⟨rfl, v2, hyq, hst⟩
          have HTc := Lib.hid (HTb.out.right hyq hst)
          have HSc := Lib.hid (HSb.out.right hst)
          have HL2 := Lib.hid (List_did ⟨r, dq, c0, c1⟩ v2 y2 wc HTc.out.ya)
          have HYL : Hid (y2.list = y2.q.jobs) := by
            have := HOUT.out.up.nd
            rw [← HY2.out] at this
            show _ = _; unfold Qst.list; rw [if_neg (by rw [this]; simp)]
          rw [HYL.out] at HL2
          clear hyq hst HC2 HTb HSb g0 g1 g2 g3 g4 g5 HYL
          go_wp2_with fail
          refine HL2.out.mono ?_
          rintro e wd ⟨⟨s6, rfl, hs6⟩, hb6⟩
          have HTd := Lib.hid (HTc.out.below hb6)
          have HSd := Lib.hid (HSc.out.below hb6)
          have HSe : Hid (Lst ⟨p, dp, b0, b1⟩ ⟨r, dq, c0, c1⟩ u2 v2 s6 y2.q.jobs wd) := Lst.new HTc.out hs6
          clear hs6 hb6 HL2 HTc HSc
          by_cases h9 : q1 = 9
          · have HEN : Hid (Ended x2.d x.q) := by
              have h1 := HOUT.out.ended (by rw [hPR.out.q]; exact hPR.out.up.fine) (by rw [← HQ1.out]; exact h9)
              rw [← HX2.out] at h1
              exact h1
            subst h9
            go_wp2_with fail
            go_meet
            case rel => exact ⟨s5, (L : Int), rfl, rfl, HTd.out.fin HEN.out HSd.out L hL⟩
          · have h9' : (q1 == 9) = false := by rw [beq_eq_false_iff_ne]; exact h9
            obtain ⟨o1, o2, o3⟩ := HOUT.out.go (by rw [← HQ1.out]; exact h9)
            rw [← HX2.out] at o2 o3
            rw [← HY2.out] at o2
            rw [← HQ1.out, ← HQ2.out] at o1
            have HPN := Lib.hid o2
            have HLN : Hid (L ≤ x2.q.last ∧ x2.q.jobs = y2.q.jobs) := ⟨Nat.le_trans hL o3, by rw [o2.q]⟩
            subst o1
            have HL3 := Lib.hid (List_did ⟨p, dp, b0, b1⟩ u2 x2 wd HTd.out.xa)
            have HXL : Hid (x2.list = x2.q.jobs) := by show _ = _; unfold Qst.list; rw [if_neg (by rw [o2.nd]; simp)]
            rw [HXL.out] at HL3
            clear h9 o2 o3 HOUT HX2 HY2 HQ1 HQ2 HXL hPR
            go_wp2_with fail
            refine HL3.out.mono ?_
            rintro e wf ⟨⟨s7, rfl, hs7⟩, hb7⟩
            have HTf := Lib.hid (HTd.out.below hb7)
            have HSf := Lib.hid (HSe.out.below hb7)
            have HSM := Lib.hid (same_any x2.q.jobs y2.q.jobs s7 s6 wf (World.owns.mono hs7 (Nat.zero_le _)) HSf.out.a.ow (by have := HTf.out.xa.fine.ok.len; omega) (by have := HTf.out.ya.fine.ok.len; omega))
            rw [show sameB x2.q.jobs y2.q.jobs = true from decide_eq_true HLN.out.2] at HSM
            clear hs7 hb7 HL3 HTd HSd HSe
            go_wp2_with fail
            refine HSM.out.mono ?_
            rintro e wg ⟨rfl, hbg⟩
            have HTg := Lib.hid (HTf.out.below hbg)
            have HSg := Lib.hid (HSf.out.below hbg)
            obtain ⟨va, vc, rfl⟩ : ∃ a c, s6 = .slice a y2.q.jobs.length c := by
              rcases HSg.out.a.ow.2 with ⟨e, h0⟩ | ⟨g, c, _, _, e, _⟩
              · exact ⟨none, 0, by rw [e, h0]⟩
              · exact ⟨_, c, e⟩
            have HJG : Hid (JobsAt wg (.slice va y2.q.jobs.length vc) y2.q.jobs) := HSg.out.a.ow
            obtain ⟨m, hm⟩ : ∃ m, m = y2.q.jobs.length := ⟨_, rfl⟩
            rw [← hm]
            have HM := Lib.hid hm
            have hm100 : m ≤ 100 := by have := HTg.out.ya.fine.ok.len; omega
            have hL2 : L ≤ x2.q.last := HLN.out.1
            have HIDS : Hid (∀ (i : Nat) (j : Jb), y2.q.jobs[i]? = some j → j.id ≤ x2.q.last) := fun i j hj => by
              rw [HPN.out.q]
              exact id_last HTg.out.ya.fine hj
            have HM2 : Hid (x2.q.jobs = y2.q.jobs) := HLN.out.2
            clear hbg hm HSM HTf HSf HLN
            go_wp2_with fail
            go_loopw [15, 19] (fun lv iv wr2 => ∃ L2 i : Nat, i ≤ m ∧ L2 ≤ x2.q.last ∧ lv = .int .i64 (L2 : Int) ∧ iv = .int .i64 (i : Int) ∧ Hid (Below wg.heap.size wg wr2)) (fun _ iv _ => m - (intOf iv).toNat)
            case atStart => exact ⟨L, 0, Nat.zero_le _, hL2, rfl, rfl, Below.refl _ _⟩
            case round =>
              obtain ⟨L2, i, hi, hLL, rfl, rfl, hB⟩ := hrel
              by_cases hlt2 : i < m
              · obtain ⟨j, hj⟩ : ∃ j, y2.q.jobs[i]? = some j := ⟨y2.q.jobs[i]'(by rw [← HM.out]; exact hlt2), List.getElem?_eq_getElem _⟩
                obtain ⟨g, c1, hg1, hg2, c0, d1, d2, d3, d4, d5, d6, d7, d8⟩ := JobsAt.cells (HJG.out.below (show Below wg.heap.size wg _ from hB.out)) i j hj
                injection hg1 with hg1 _ _
                subst hg1
                have hjd := HIDS.out i j hj
                clear hj d1 d2 d3 d4 d5 d6 d7 d8
                go_wp2_with fail
                go_roundw
                case rel =>
                  refine ⟨if L2 < j.id then j.id else L2, i + 1, by omega, ?_, ?_, by go_num, hB.out⟩
                  · split <;> omega
                  · split <;> rfl
                case measure => simp [intOf]; omega
              · obtain rfl : i = m := by omega
                clear hlt2
                go_wp2_with fail
                go_roundw
                case rel => exact ⟨k + 1, x2, y2, u2, v2, L2, by omega, rfl, by go_num, hLL, HTg.out.below hB.out, HPN.out, by
                  have h1 := HSg.out.below hB.out
                  rw [← HM2.out] at h1
                  rw [HM.out, ← HM2.out]
                  exact h1⟩
                case measure => simp [intOf]; omega
        · obtain rfl : k = n := by omega
          clear hlt
          have HFN : Hid (Fin w1.heap.size ⟨p, dp, b0, b1⟩ _ (L : Int) w1 wr) := hTW.out.fin hPR.out.ended hLS.out L hL
          go_wp2_with fail
          go_meet
          case rel => exact ⟨_, (L : Int), rfl, rfl, HFN.out⟩
    case rest =>
      obtain ⟨s13, L, rfl, rfl, HFI⟩ := hcut
      clear HPA HT4 HS4 HXN HA HN HN2
      have HTT : Hid (TabAt wc) := HT.out.block (HFI.out.bl.block _ HT.out.lt)
      obtain ⟨d, q, Lq, hL1, hL2, hdk, hen, how⟩ := HFI.out.ex
      have HL : Hid (L = (Lq : Int) ∧ Lq ≤ q.last) := ⟨hL1, hL2⟩
      have HEN := Lib.hid hen
      have HOW := Lib.hid how
      have HRS := Lib.hid (Restart_any dp b0 b1 d wc hdk)
      clear hL1 hL2 hen how hdk
      go_wp2_with fail
      refine HRS.out.mono ?_
      rintro e wr ⟨⟨rv, rfl⟩, hd', hk'⟩
      have HOW2 : Hid (wr.owns 0 38 9 s13 q.jobs.length (jobsL q.jobs)) := World.owns.keptBy HOW.out (fun g c fz hg hh => hk'.block g (lt_of_heap hh) (HFI.out.na g hg))
      have HBL : Hid (Below w1.heap.size w1 wr ∧ w1.heap.size ≤ wr.heap.size) := ⟨HFI.out.bl.trans (hk'.below HFI.out.le HFI.out.mn), Nat.le_trans HFI.out.le hk'.size⟩
      have HOP := Lib.hid (Open_any dp b0 b1 _ wr hd' HEN.out.opened.1.ok (HT.out.block (HBL.out.1.block _ HT.out.lt)))
      rw [HEN.out.opened.2] at HOP
      have HMN : Hid (∀ k, three dp b0 b1 k → w1.heap.size ≤ k) := HFI.out.mn
      clear hd' hk' HOW HRS HFI
      go_wp2_with fail
      refine HOP.out.mono ?_
      rintro e wo ⟨hop, hbo⟩
      unfold OpenP at hop
      dsimp only at hop
      obtain ⟨p2, v2, rfl, hpp, hqd, hvv⟩ := hop
      have HBK : Hid (Back w1.heap.size ⟨p2, dp, b0, b1⟩ v2 q _ w1 wo) := ⟨hqd, HBL.out.1.trans (hbo.mono HBL.out.2), fun k hm => by
        have h2 := HBL.out.2
        rcases hm with e | e | e | e | e
        · have : k = p2 := e
          omega
        · exact HMN.out k (.inl e)
        · exact HMN.out k (.inr (.inl e))
        · exact HMN.out k (.inr (.inr e))
        · have := hvv k e; omega, Nat.le_trans HBL.out.2 hbo.size⟩
      have HOW3 := Lib.hid (HOW2.out.below hbo)
      obtain ⟨dd, hdd⟩ : ∃ dd : Dk, dd = { d with fuse := -1, failed := false } := ⟨_, rfl⟩
      rw [← hdd] at HBK
      have HLS := Lib.hid (List_did ⟨p2, dp, b0, b1⟩ v2 ⟨q.asleep, dd, false⟩ wo HBK.out.qd)
      clear hqd hpp hvv hbo hdd HOP HOW2 HBL HMN
      go_wp2_with fail
      refine HLS.out.mono ?_
      rintro e wp ⟨⟨s3, rfl, hs3⟩, hbp⟩
      have HS5 : Hid (wp.owns 0 38 9 s3 q.asleep.jobs.length (jobsL q.asleep.jobs)) := World.owns.mono hs3 (Nat.zero_le _)
      have HBK2 := Lib.hid (HBK.out.below hbp)
      have HWT := Lib.hid (waiting_any q.jobs s13 wp (HOW3.out.below hbp) (by have := HEN.out.fine.ok.len; omega))
      have HLEN : Hid (q.jobs.length ≤ 100 ∧ q.asleep.jobs.length = q.jobs.length) := ⟨HEN.out.fine.ok.len, List.length_map _⟩
      clear hs3 hbp HLS HBK HOW3
      go_wp2_with fail
      refine HWT.out.mono ?_
      rintro e wq ⟨⟨s4, rfl, hs4⟩, hbq⟩
      have HS6 := Lib.hid (HS5.out.below hbq)
      have HBK3 := Lib.hid (HBK2.out.below hbq)
      have HSM := Lib.hid (same_any q.asleep.jobs (q.jobs.map Jb.asleep) s3 s4 wq HS6.out (by rw [List.length_map]; exact World.owns.mono hs4 (Nat.zero_le _)) (by have := HLEN.out; omega) (by have := HLEN.out; rw [List.length_map]; omega))
      rw [show sameB q.asleep.jobs (q.jobs.map Jb.asleep) = true from decide_eq_true rfl] at HSM
      clear hs4 hbq HWT HS5 HBK2
      go_wp2_with fail
      refine HSM.out.mono ?_
      rintro e wu ⟨rfl, hbu⟩
      have HS7 := Lib.hid (HS6.out.below hbu)
      have HBK4 := Lib.hid (HBK3.out.below hbu)
      obtain ⟨va, vc, rfl⟩ : ∃ a c, s3 = .slice a q.asleep.jobs.length c := by
        rcases HS7.out.2 with ⟨e, h0⟩ | ⟨g, c, _, _, e, _⟩
        · exact ⟨none, 0, by rw [e, h0]⟩
        · exact ⟨_, c, e⟩
      obtain ⟨m, hm⟩ : ∃ m, m = q.asleep.jobs.length := ⟨_, rfl⟩
      rw [← hm]
      have HM := Lib.hid hm
      have hm100 : m ≤ 100 := by have := HLEN.out; omega
      clear hbu hm HSM HS6 HBK3
      go_wp2_with fail
      go_loopw [22] (fun iv wr => ∃ i : Nat, i ≤ m ∧ iv = .int .i64 (i : Int) ∧ Hid (∀ (k : Nat) (j : Jb), k < i → q.asleep.jobs[k]? = some j → ¬ (j.client = newC ∧ j.token = newT)) ∧ Hid (Back w1.heap.size ⟨p2, dp, b0, b1⟩ v2 q dd w1 wr) ∧ Hid (JobsAt wr (.slice va q.asleep.jobs.length vc) q.asleep.jobs)) (fun iv _ => m - (intOf iv).toNat)
      case atStart => exact ⟨0, Nat.zero_le _, rfl, fun k j hk => by omega, HBK4.out, HS7.out⟩
      case round =>
        obtain ⟨i, hi, rfl, hNo, hB, hJ⟩ := hrel
        by_cases hlt : i < m
        · obtain ⟨j, hj⟩ : ∃ j, q.asleep.jobs[i]? = some j := ⟨q.asleep.jobs[i]'(by rw [← HM.out]; exact hlt), List.getElem?_eq_getElem _⟩
          obtain ⟨g, c1, hg1, hg2, c0, d1, d2, d3, d4, d5, d6, d7, d8⟩ := JobsAt.cells hJ.out i j hj
          injection hg1 with hg1 _ _
          subst hg1
          have HJ := Lib.hid hj
          unfold strV at d1 d2
          clear hj c0 d3 d4 d5 d6 d7 d8
          have HJN := Lib.hid (show ∀ k jj, k < i → q.asleep.jobs[k]? = some jj → ¬ (jj.client = newC ∧ jj.token = newT) from hNo.out)
          clear hNo
          by_cases hc : j.client = newC
          · obtain ⟨t1, t2⟩ := text_eq hc
            by_cases hk : j.token = newT
            · obtain ⟨t3, t4⟩ := text_eq hk
              unfold newC at t1 t2
              unfold newT at t3 t4
              have HSH := Lib.hid (shown_any wr (HT.out.block (hB.out.bl.block _ HT.out.lt)))
              clear hc hk
              go_wp2_with fail
              refine HSH.out.mono ?_
              rintro e wz ⟨rfl, hbz⟩
              go_wp2_with fail
              go_ret
              exact ⟨rfl, hB.out.bl.trans (hbz.mono hB.out.le)⟩
            · obtain ⟨t3, t4⟩ := text_ne hk
              unfold newC at t1 t2
              unfold newT at t3 t4
              have HNO : Hid (∀ k jj, k < i + 1 → q.asleep.jobs[k]? = some jj → ¬ (jj.client = newC ∧ jj.token = newT)) := fun k jj h1 h2 => by
                rcases Nat.lt_or_ge k i with h3 | h3
                · exact HJN.out k jj h3 h2
                · obtain rfl : k = i := by omega
                  have h4 := HJ.out
                  rw [h2] at h4
                  injection h4 with h4
                  subst h4
                  exact fun ⟨_, z⟩ => hk z
              clear hc hk
              go_wp2_with fail
              go_roundw
              case rel => exact ⟨i + 1, by omega, by go_num, HNO.out, hB.out, hJ.out⟩
              case measure => simp [intOf]; omega
          · obtain ⟨t1, t2⟩ := text_ne hc
            unfold newC at t1 t2
            have HNO : Hid (∀ k jj, k < i + 1 → q.asleep.jobs[k]? = some jj → ¬ (jj.client = newC ∧ jj.token = newT)) := fun k jj h1 h2 => by
              rcases Nat.lt_or_ge k i with h3 | h3
              · exact HJN.out k jj h3 h2
              · obtain rfl : k = i := by omega
                have h4 := HJ.out
                rw [h2] at h4
                injection h4 with h4
                subst h4
                exact fun ⟨z, _⟩ => hc z
            clear hc
            go_wp2_with fail
            go_roundw
            case rel => exact ⟨i + 1, by omega, by go_num, HNO.out, hB.out, hJ.out⟩
            case measure => simp [intOf]; omega
        · have hlt' : ¬ (i : Int) < (m : Int) := by omega
          have HNN : Hid (q.asleep.named newC newT = none) := named_not (fun k jj h2 => hNo.out k jj (by have := (List.getElem?_eq_some_iff.1 h2).1; have := HM.out; omega) h2)
          have HSU := Lib.hid (Submit_did ⟨p2, dp, b0, b1⟩ v2 ⟨q.asleep, dd, false⟩ newC newT 0 [] wr hB.out.qd)
          obtain ⟨r1, hr1⟩ : ∃ r1, r1 = (Qst.submit ⟨q.asleep, dd, false⟩ newC newT 0 []) := ⟨_, rfl⟩
          have HR1 : Hid (r1.1.2 = 0 → Lq < r1.1.1) := fun h0 => by
            rw [hr1] at h0 ⊢
            have := submit_last HNN.out h0 rfl
            have h3 := HL.out.2
            exact Nat.lt_of_le_of_lt h3 this
          rw [← hr1] at HSU
          clear hlt hr1 hNo HNN
          go_wp2_with fail
          refine (show Calls Tryd.prog 14 #[.pointer (some ⟨p2, 0, none⟩), .string { data := #[110, 101, 119, 32, 99, 108, 105, 101, 110, 116] }, .string { data := #[110, 101, 119, 32, 116, 111, 107, 101, 110] }, .int .i64 0, .string { data := #[] }] wr _ from HSU.out).mono ?_
          rintro e wv ⟨rfl, v3, hq3, hs3⟩
          have HBL : Hid (Below w1.heap.size w1 wv ∧ w1.heap.size ≤ wv.heap.size) := ⟨hB.out.bl.trans (hs3.kp.below hB.out.le hB.out.mn), Nat.le_trans hB.out.le hs3.kp.size⟩
          have HSH := Lib.hid (shown_any wv (HT.out.block (HBL.out.1.block _ HT.out.lt)))
          obtain ⟨id1, hid1⟩ : ∃ z, z = r1.1.1 := ⟨_, rfl⟩
          obtain ⟨co1, hco1⟩ : ∃ z, z = r1.1.2 := ⟨_, rfl⟩
          rw [← hid1, ← hco1] at HR1 ⊢
          clear hq3 hs3 hid1 hco1 HSU
          by_cases h0 : co1 = 0
          · have hLt : ¬ (id1 : Int) ≤ L := by
              have := HR1.out h0
              have h5 := HL.out.1
              omega
            subst h0
            go_wp2_with fail
            refine HSH.out.mono ?_
            rintro e wz ⟨rfl, hbz⟩
            go_wp2_with fail
            go_ret
            exact ⟨rfl, HBL.out.1.trans (hbz.mono HBL.out.2)⟩
          · have h0' : (co1 == 0) = false := by rw [beq_eq_false_iff_ne]; exact h0
            clear h0
            go_wp2_with fail
            refine HSH.out.mono ?_
            rintro e wz ⟨rfl, hbz⟩
            go_wp2_with fail
            go_ret
            exact ⟨rfl, HBL.out.1.trans (hbz.mono HBL.out.2)⟩
end Go.Proofs.YtoggmplkbiidhaaDoor
