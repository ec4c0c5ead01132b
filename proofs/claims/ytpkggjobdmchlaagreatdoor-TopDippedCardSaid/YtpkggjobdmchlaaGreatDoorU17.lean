/- wick.Sizes. -/
import Derived.Deep.Cut
import Derived.Deep.CutBlock
import Derived.Test.YtpkggjobdmchlaaGreatDoorU16
namespace Go.Proofs.YtpkggjobdmchlaaGreatDoor
open Go.RowKit
attribute [local go_sem] Oper.semAt_some
theorem pool_b {x : Wax} {c : Candle} {p : Int × Int} (h : BOk x c p) {t : WTru} (ht : trueW x c p t = true) : (-10000000000 ≤ (burnV x t).pool ∧ (burnV x t).pool ≤ 1000000000000) ∧ 0 ≤ (burnV x t).flame ∧ (burnV x t).flame ≤ 1000000000000 := by
  obtain ⟨a1, a2, a3, a4, a5, a6⟩ := drawn_bounds h ht
  have q1 := mulb (a := t.pull) (b := t.flow) (A := 1000) (B := 300) (by omega) (by omega)
  have q2 := mulb q1 (b := 100 + t.draught) (B := 190) (by omega)
  have q3 := mulb q2 (b := t.spread) (B := 2000) (by omega)
  have q4 := mulb q2 (b := t.rise) (B := 1000) (by omega)
  have q5 := mulb (a := t.cold) (b := x.chill) (A := 300) (B := 50) (by omega) h.chill
  simp only [burnV]
  omega
theorem sizes_bad {s : WShop} {c : Candle} {k : Nat} (h : (sizesV0 s (leastB s c k) (mostB s c k)).2 < (sizesV0 s (leastB s c k) (mostB s c k)).1 ∨ goesOut s (leastB s c k) = true ∨ smokes s (mostB s c k) = true) : sizesE s c k = 9 ∧ sizesV s c k = (0, 0) := by
  have h1 : sizesE s c k = 9 := by unfold sizesE; rw [if_pos h]
  exact ⟨h1, by unfold sizesV; rw [h1]; rfl⟩
theorem sizes_good {s : WShop} {c : Candle} {k : Nat} (h1 : ¬ (sizesV0 s (leastB s c k) (mostB s c k)).2 < (sizesV0 s (leastB s c k) (mostB s c k)).1) (h2 : goesOut s (leastB s c k) = false) (h3 : smokes s (mostB s c k) = false) : sizesE s c k = 0 ∧ sizesV s c k = sizesV0 s (leastB s c k) (mostB s c k) := by
  have h1 : sizesE s c k = 0 := by unfold sizesE; rw [if_neg (by rw [h2, h3]; simpa using h1)]
  exact ⟨h1, by unfold sizesV; rw [h1]; rfl⟩
set_option maxRecDepth 100000 in
set_option maxHeartbeats 16000000 in
theorem Sizes_ok {s : WShop} {c : Candle} (hs : WOk s c) (k : Nat) (hk : k < s.wicks.length) (vw vx : Value) (w : World) (hv : WShopAt w.heap.size w vw vx s) :
    Calls Tryz.prog 9 #[.agg (wshopC vw vx s), .int .i64 k, .agg (candC c)] w fun e w' => e = .returned (.tuple #[.agg #[.int .i64 (sizesV s c k).1, .int .i64 (sizesV s c k).2], .int .i64 (sizesE s c k)]) ∧ Below w.heap.size w w' := by
  have HEN := fun vw vx g w h1 h2 => Lib.hid (ends_ok hs k hk vw vx g w h1 h2)
  obtain ⟨va, vc, rfl, hvl, -⟩ := sl_shape hv.1
  obtain ⟨xa, xc, rfl, hxl, -⟩ := sl_shape hv.2
  have HV := Lib.hid hv
  have HOP := fun vk w h1 h2 => Lib.hid (wopen_ok hs [(k : Int)] (by intro z hz; simp at hz; omega) (.slice va s.wicks.length vc) (.slice xa s.waxes.length xc) vk w h1 h2)
  have C0 : Hid (Bs w [(w.heap.size, .cells #[.slice va s.wicks.length vc, .slice xa s.waxes.length xc, .int .i64 s.flame.1, .int .i64 s.flame.2, .int .i64 s.pool.1, .int .i64 s.pool.2] 27), (w.heap.size + 1, .cells #[.int .i64 c.wax, .int .i64 c.dia, .int .i64 c.draught, .int .i64 c.cold.1, .int .i64 c.cold.2] 32), (w.heap.size + 1 + 1, .cells #[.int .i64 0, .int .i64 0] 25), (w.heap.size + 1 + 1 + 1, .cells #[.int .i64 (k : Int)] 3)] _) := Lib.hid (((((Bs.nil w).push _ rfl (.cells #[.slice va s.wicks.length vc, .slice xa s.waxes.length xc, .int .i64 s.flame.1, .int .i64 s.flame.2, .int .i64 s.pool.1, .int .i64 s.pool.2] 27)).push (w.heap.size + 1) (by simp) (.cells #[.int .i64 c.wax, .int .i64 c.dia, .int .i64 c.draught, .int .i64 c.cold.1, .int .i64 c.cold.2] 32)).push (w.heap.size + 1 + 1) (by simp) (.cells #[.int .i64 0, .int .i64 0] 25)).push (w.heap.size + 1 + 1 + 1) (by simp) (.cells #[.int .i64 (k : Int)] 3))
  have hc0 := C0.out.cell 0 rfl 0
  have hc1 := C0.out.cell 0 rfl 1
  have hc2 := C0.out.cell 0 rfl 2
  have hc3 := C0.out.cell 0 rfl 3
  have hc4 := C0.out.cell 0 rfl 4
  have hc5 := C0.out.cell 0 rfl 5
  have hk0 := C0.out.cell 1 rfl 0
  have hk1 := C0.out.cell 1 rfl 1
  have hk2 := C0.out.cell 1 rfl 2
  have hk3 := C0.out.cell 1 rfl 3
  have hk4 := C0.out.cell 1 rfl 4
  have hs0 := Lib.hid hs
  clear hs hv
  go_enter Tryz.func9, Tryz.ntmps9
  go_wp2_with fail
  refine (HOP _ _ ((HV.out.below C0.out.bel).mono C0.out.bel.size) (intsIn_blk (l := [(k : Int)]) (C0.out.get 3 rfl) rfl (by simp) rfl)).out.mono ?_
  rintro e w1 ⟨g, rfl, hgw, hg, hb⟩
  simp only [World.size_alloc] at hgw
  have C1 : Hid (Bs w ([(w.heap.size, .cells #[.slice va s.wicks.length vc, .slice xa s.waxes.length xc, .int .i64 s.flame.1, .int .i64 s.flame.2, .int .i64 s.pool.1, .int .i64 s.pool.2] 27), (w.heap.size + 1, .cells #[.int .i64 c.wax, .int .i64 c.dia, .int .i64 c.draught, .int .i64 c.cold.1, .int .i64 c.cold.2] 32), (w.heap.size + 1 + 1, .cells #[.int .i64 0, .int .i64 0] 25), (w.heap.size + 1 + 1 + 1, .cells #[.int .i64 (k : Int)] 3)] ++ [(g, .cells (opC (.slice va s.wicks.length vc) (.slice xa s.waxes.length xc) s c (waxOf s c)) 104)]) w1) := Lib.hid ((C0.out.call hb).snoc (by simp; omega) hg (by omega))
  have HG := Lib.hid hg
  clear hb hg C0 HOP hc0 hc1 hc2 hc3 hc4 hc5 hk0 hk1 hk2 hk3 hk4
  go_wp2_with fail
  refine (HEN (.slice va s.wicks.length vc) (.slice xa s.waxes.length xc) g _ ((HV.out.below C1.out.bel).mono C1.out.bel.size) HG.out).out.mono ?_
  rintro e w2 ⟨rfl, hb⟩
  have C2 := Lib.hid (C1.out.call hb)
  clear hb C1 HEN HV HG
  have CP : Hid (Bs w [(w.heap.size, .cells #[.slice va s.wicks.length vc, .slice xa s.waxes.length xc, .int .i64 s.flame.1, .int .i64 s.flame.2, .int .i64 s.pool.1, .int .i64 s.pool.2] 27), (w.heap.size + 1, .cells #[.int .i64 c.wax, .int .i64 c.dia, .int .i64 c.draught, .int .i64 c.cold.1, .int .i64 c.cold.2] 32), (w.heap.size + 1 + 1, .cells #[.int .i64 0, .int .i64 0] 25), (w.heap.size + 1 + 1 + 1, .cells #[.int .i64 (k : Int)] 3), (g, .cells (opC (.slice va s.wicks.length vc) (.slice xa s.waxes.length xc) s c (waxOf s c)) 104), (w2.heap.size, .cells #[.int .i64 0, .int .i64 0, .int .i64 0] 66), (w2.heap.size + 1, .cells #[.int .i64 0, .int .i64 0, .int .i64 0] 66)] _) := Lib.hid ((C2.out.push _ rfl (.cells #[.int .i64 0, .int .i64 0, .int .i64 0] 66)).push (w2.heap.size + 1) (by simp) (.cells #[.int .i64 0, .int .i64 0, .int .i64 0] 66))
  clear C2
  obtain ⟨mp, HMP⟩ : ∃ q, Hid ((mostB s c k).pool = q) := ⟨_, rfl⟩
  obtain ⟨sq, HSQ⟩ : ∃ q, Hid (s.pool.2 = q) := ⟨_, rfl⟩
  have hsq : 0 ≤ sq ∧ sq ≤ 2000 := by rw [← HSQ.out]; have := hs0.out.pool; omega
  obtain ⟨HI, HHI⟩ : ∃ h, Hid (sizesHi s (leastB s c k) = h) := ⟨_, rfl⟩
  go_upto_block 0 with (first | (refine wpList_store_bs rfl 66 _ _ rfl CP.out 5 _ (burnC (leastB s c k)) _ _ rfl rfl rfl infoBurn rfl (by simp [Value.oneCell']) ?_; intro w4 hC4; have CQ : Hid (Bs w [(w.heap.size, .cells #[.slice va s.wicks.length vc, .slice xa s.waxes.length xc, .int .i64 s.flame.1, .int .i64 s.flame.2, .int .i64 s.pool.1, .int .i64 s.pool.2] 27), (w.heap.size + 1, .cells #[.int .i64 c.wax, .int .i64 c.dia, .int .i64 c.draught, .int .i64 c.cold.1, .int .i64 c.cold.2] 32), (w.heap.size + 1 + 1, .cells #[.int .i64 0, .int .i64 0] 25), (w.heap.size + 1 + 1 + 1, .cells #[.int .i64 (k : Int)] 3), (g, .cells (opC (.slice va s.wicks.length vc) (.slice xa s.waxes.length xc) s c (waxOf s c)) 104), (w2.heap.size, .cells (burnC (leastB s c k)) 66), (w2.heap.size + 1, .cells #[.int .i64 0, .int .i64 0, .int .i64 0] 66)] w4) := hC4; clear hC4 CP) | (refine wpList_store_bs rfl 66 _ _ rfl CQ.out 6 _ (burnC (mostB s c k)) _ _ rfl rfl rfl infoBurn rfl (by simp [Value.oneCell']) ?_; intro w5 hC5; have CR : Hid (Bs w [(w.heap.size, .cells #[.slice va s.wicks.length vc, .slice xa s.waxes.length xc, .int .i64 s.flame.1, .int .i64 s.flame.2, .int .i64 s.pool.1, .int .i64 s.pool.2] 27), (w.heap.size + 1, .cells #[.int .i64 c.wax, .int .i64 c.dia, .int .i64 c.draught, .int .i64 c.cold.1, .int .i64 c.cold.2] 32), (w.heap.size + 1 + 1, .cells #[.int .i64 0, .int .i64 0] 25), (w.heap.size + 1 + 1 + 1, .cells #[.int .i64 (k : Int)] 3), (g, .cells (opC (.slice va s.wicks.length vc) (.slice xa s.waxes.length xc) s c (waxOf s c)) 104), (w2.heap.size, .cells (burnC (leastB s c k)) 66), (w2.heap.size + 1, .cells (burnC (mostB s c k)) 66)] w5) := hC5; clear hC5 CQ) | (refine wpList_bdU rfl 25 _ rfl _ (by simp only [List.map_toArray, List.map]; rfl) _ (run_buildSp ..) ?_) | (refine wpList_store_bs rfl 25 _ _ rfl CR.out 2 _ #[.int .i64 1, .int .i64 2000] _ _ rfl rfl rfl infoSpan rfl (by simp [Value.oneCell']) ?_; intro w6 hC6; have CS : Hid (Bs w [(w.heap.size, .cells #[.slice va s.wicks.length vc, .slice xa s.waxes.length xc, .int .i64 s.flame.1, .int .i64 s.flame.2, .int .i64 s.pool.1, .int .i64 s.pool.2] 27), (w.heap.size + 1, .cells #[.int .i64 c.wax, .int .i64 c.dia, .int .i64 c.draught, .int .i64 c.cold.1, .int .i64 c.cold.2] 32), (w.heap.size + 1 + 1, .cells #[.int .i64 1, .int .i64 2000] 25), (w.heap.size + 1 + 1 + 1, .cells #[.int .i64 (k : Int)] 3), (g, .cells (opC (.slice va s.wicks.length vc) (.slice xa s.waxes.length xc) s c (waxOf s c)) 104), (w2.heap.size, .cells (burnC (leastB s c k)) 66), (w2.heap.size + 1, .cells (burnC (mostB s c k)) 66)] w6) := hC6; clear hC6 CR))
  simp only [Act.put, List.setIfInBounds_toArray, List.set]
  go_cut [30] from 29 (fun s30 wc => Hid (Bs w [(w.heap.size, .cells #[.slice va s.wicks.length vc, .slice xa s.waxes.length xc, .int .i64 s.flame.1, .int .i64 s.flame.2, .int .i64 s.pool.1, .int .i64 s.pool.2] 27), (w.heap.size + 1, .cells #[.int .i64 c.wax, .int .i64 c.dia, .int .i64 c.draught, .int .i64 c.cold.1, .int .i64 c.cold.2] 32), (w.heap.size + 1 + 1, .cells #[.int .i64 1, .int .i64 HI] 25), (w.heap.size + 1 + 1 + 1, .cells #[.int .i64 (k : Int)] 3), (g, .cells (opC (.slice va s.wicks.length vc) (.slice xa s.waxes.length xc) s c (waxOf s c)) 104), (w2.heap.size, .cells (burnC (leastB s c k)) 66), (w2.heap.size + 1, .cells (burnC (mostB s c k)) 66)] wc))
  case first =>
    obtain ⟨sp, HSP⟩ : ∃ q, Hid (s.pool.1 = q) := ⟨_, rfl⟩
    obtain ⟨lp, HLP⟩ : ∃ q, Hid ((leastB s c k).pool = q) := ⟨_, rfl⟩
    have HDEF : Hid ((if lp < 0 then 0 else if 0 < sp then min 2000 (lp / (sp * 1000)) else 2000) = HI) := by
      have h := HHI.out
      unfold sizesHi at h
      rw [HLP.out, HSP.out] at h
      exact h
    have hsp : 0 ≤ sp ∧ sp ≤ 2000 := by rw [← HSP.out]; have := hs0.out.pool; omega
    have hp0 : w6.cell? ⟨w2.heap.size, 2, none⟩ = some (.int .i64 lp) := by rw [← HLP.out]; exact CS.out.cell 5 rfl 2
    have hg4 : w6.cell? ⟨g, 4, none⟩ = some (.int .i64 sp) := by rw [← HSP.out]; exact CS.out.cell 4 rfl 4
    rcases Int.lt_or_le lp 0 with hl | hl
    · have HX : Hid (HI = 0) := by unfold Hid; rw [← HDEF.out, if_pos hl]
      go_wp2_with (first | (refine wpList_cell_bz (o := ⟨none, .store 3 (.tmp 34) (.const (.int .i64 0)), _, _, _, _⟩) rfl 3 _ _ rfl CS.out 2 (w.heap.size + 1 + 1) 1 _ 25 rfl ?_ (.int .i64 0) ?_ ?_ ?_ ?_ ?_; (exact rfl); (exact rfl); (simp); (exact rfl); (exact info3); intro w7 hC7 hz7; have HC7 : Hid (Bs w [(w.heap.size, .cells #[.slice va s.wicks.length vc, .slice xa s.waxes.length xc, .int .i64 s.flame.1, .int .i64 s.flame.2, .int .i64 s.pool.1, .int .i64 s.pool.2] 27), (w.heap.size + 1, .cells #[.int .i64 c.wax, .int .i64 c.dia, .int .i64 c.draught, .int .i64 c.cold.1, .int .i64 c.cold.2] 32), (w.heap.size + 1 + 1, .cells #[.int .i64 1, .int .i64 0] 25), (w.heap.size + 1 + 1 + 1, .cells #[.int .i64 (k : Int)] 3), (g, .cells (opC (.slice va s.wicks.length vc) (.slice xa s.waxes.length xc) s c (waxOf s c)) 104), (w2.heap.size, .cells (burnC (leastB s c k)) 66), (w2.heap.size + 1, .cells (burnC (mostB s c k)) 66)] w7) := hC7; clear hC7 hz7) | fail)
      simp only [Act.put]
      go_meet
      case rel => rw [HX.out]; exact HC7.out
    · rcases Int.lt_or_le 0 sp with hq | hq
      · have HX : Hid (HI = min 2000 (lp / (sp * 1000))) := by unfold Hid; rw [← HDEF.out, if_neg (by omega), if_pos hq]
        go_wp2_with fail
        obtain ⟨q, HQ⟩ : ∃ q, Hid (lp / (sp * 1000) = q) := ⟨_, rfl⟩
        rw [HQ.out] at HX
        have hlb : lp ≤ 1000000000000 := by rw [← HLP.out]; exact (pool_b (hs0.out.bok hk) (hs0.out.bok hk).least).1.2
        have HVAL : Hid (min 2000 (wrap64 (lp.tdiv (sp * 1000))) = HI) := by
          have b1 : 0 ≤ q := by rw [← HQ.out]; exact Int.ediv_nonneg hl (by omega)
          have b2 : q ≤ lp := by rw [← HQ.out]; exact Int.ediv_le_self _ hl
          unfold Hid
          rw [Int.tdiv_eq_ediv_of_nonneg hl, HQ.out, wrapU (by omega), HX.out]
        clear hlb HX
        refine wp_region_inv0 (by kernel_rfl) (by kernel_rfl) (fun D w' => Bs w [(w.heap.size, .cells #[.slice va s.wicks.length vc, .slice xa s.waxes.length xc, .int .i64 s.flame.1, .int .i64 s.flame.2, .int .i64 s.pool.1, .int .i64 s.pool.2] 27), (w.heap.size + 1, .cells #[.int .i64 c.wax, .int .i64 c.dia, .int .i64 c.draught, .int .i64 c.cold.1, .int .i64 c.cold.2] 32), (w.heap.size + 1 + 1, .cells (cond (D 14) #[.int .i64 1, .int .i64 HI] #[.int .i64 1, .int .i64 2000]) 25), (w.heap.size + 1 + 1 + 1, .cells #[.int .i64 (k : Int)] 3), (g, .cells (opC (.slice va s.wicks.length vc) (.slice xa s.waxes.length xc) s c (waxOf s c)) 104), (w2.heap.size, .cells (burnC (leastB s c k)) 66), (w2.heap.size + 1, .cells (burnC (mostB s c k)) 66)] w') CS.out.drew ?_
        apply obl_det
        case hrun =>
          intro D y wz hW hD R hR
          have HRR := Lib.hid hR
          clear hR
          have HW := Lib.hid hW
          clear hW hD
          go_wp2_with fail
          exact HRR.out _ HW.out
        case hnp => rfl
        case hv => first | exact ⟨_, fun _ => rfl⟩ | exact ⟨undef, fun _ => rfl⟩
        apply obl_det
        case hrun =>
          intro D y wz hW hD R hR
          have HRR := Lib.hid hR
          clear hR
          have HW := Lib.hid hW
          have h0 : D 14 = false := hD.post _ 14 rfl (by kernel_rfl)
          have h1 : wz.cell? ⟨w.heap.size + 1 + 1, 1, none⟩ = some (.int .i64 2000) := by
            have h := HW.out
            rw [h0] at h
            exact h.cell 2 rfl 1
          clear h0
          clear hW
          go_wp2_with fail
          exact HRR.out _ HW.out
        case hnp => rfl
        case hv => first | exact ⟨_, fun _ => rfl⟩ | exact ⟨undef, fun _ => rfl⟩
        apply obl_det
        case hrun =>
          intro D y wz hW hD R hR
          have HRR := Lib.hid hR
          clear hR
          have HW := Lib.hid hW
          clear hW hD
          go_wp2_with fail
          exact HRR.out _ HW.out
        case hnp => rfl
        case hv => first | exact ⟨_, fun _ => rfl⟩ | exact ⟨undef, fun _ => rfl⟩
        apply obl_det
        case hrun =>
          intro D y wz hW hD R hR
          have HRR := Lib.hid hR
          clear hR
          have HW := Lib.hid hW
          have h1 : wz.cell? ⟨w2.heap.size, 2, none⟩ = some (.int .i64 lp) := by rw [← HLP.out]; exact HW.out.cell 5 rfl 2
          clear hW hD
          go_wp2_with fail
          exact HRR.out _ HW.out
        case hnp => rfl
        case hv => first | exact ⟨_, fun _ => rfl⟩ | exact ⟨undef, fun _ => rfl⟩
        apply obl_det
        case hrun =>
          intro D y wz hW hD R hR
          have HRR := Lib.hid hR
          clear hR
          have HW := Lib.hid hW
          clear hW hD
          go_wp2_with fail
          exact HRR.out _ HW.out
        case hnp => rfl
        case hv => first | exact ⟨_, fun _ => rfl⟩ | exact ⟨undef, fun _ => rfl⟩
        apply obl_det
        case hrun =>
          intro D y wz hW hD R hR
          have HRR := Lib.hid hR
          clear hR
          have HW := Lib.hid hW
          clear hW hD
          go_wp2_with fail
          exact HRR.out _ HW.out
        case hnp => rfl
        case hv => first | exact ⟨_, fun _ => rfl⟩ | exact ⟨undef, fun _ => rfl⟩
        apply obl_det
        case hrun =>
          intro D y wz hW hD R hR
          have HRR := Lib.hid hR
          clear hR
          have HW := Lib.hid hW
          clear hW hD
          go_wp2_with fail
          exact HRR.out _ HW.out
        case hnp => rfl
        case hv => first | exact ⟨_, fun _ => rfl⟩ | exact ⟨undef, fun _ => rfl⟩
        apply obl_det
        case hrun =>
          intro D y wz hW hD R hR
          have HRR := Lib.hid hR
          clear hR
          have HW := Lib.hid hW
          clear hW hD
          go_wp2_with fail
          exact HRR.out _ HW.out
        case hnp => rfl
        case hv => first | exact ⟨_, fun _ => rfl⟩ | exact ⟨undef, fun _ => rfl⟩
        apply obl_det
        case hrun =>
          intro D y wz hW hD R hR
          have HRR := Lib.hid hR
          clear hR
          have HW := Lib.hid hW
          clear hW hD
          go_wp2_with fail
          exact HRR.out _ HW.out
        case hnp => rfl
        case hv => first | exact ⟨_, fun _ => rfl⟩ | exact ⟨undef, fun _ => rfl⟩
        apply obl_det
        case hrun =>
          intro D y wz hW hD R hR
          have HRR := Lib.hid hR
          clear hR
          have HW := Lib.hid hW
          have h1 : wz.cell? ⟨g, 4, none⟩ = some (.int .i64 sp) := by rw [← HSP.out]; exact HW.out.cell 4 rfl 4
          clear hW hD
          go_wp2_with fail
          exact HRR.out _ HW.out
        case hnp => rfl
        case hv => first | exact ⟨_, fun _ => rfl⟩ | exact ⟨undef, fun _ => rfl⟩
        apply obl_det
        case hrun =>
          intro D y wz hW hD R hR
          have HRR := Lib.hid hR
          clear hR
          have HW := Lib.hid hW
          clear hW hD
          go_wp2_with fail
          exact HRR.out _ HW.out
        case hnp => rfl
        case hv => first | exact ⟨_, fun _ => rfl⟩ | exact ⟨undef, fun _ => rfl⟩
        apply obl_det
        case hrun =>
          intro D y wz hW hD R hR
          have HRR := Lib.hid hR
          clear hR
          have HW := Lib.hid hW
          clear hW hD
          go_wp2_with fail
          exact HRR.out _ HW.out
        case hnp => rfl
        case hv => first | exact ⟨_, fun _ => rfl⟩ | exact ⟨undef, fun _ => rfl⟩
        apply obl_det
        case hrun =>
          intro D y wz hW hD R hR
          have HRR := Lib.hid hR
          clear hR
          have HW := Lib.hid hW
          clear hW hD
          go_wp2_with fail
          exact HRR.out _ HW.out
        case hnp => rfl
        case hv => first | exact ⟨_, fun _ => rfl⟩ | exact ⟨undef, fun _ => rfl⟩
        apply obl_det
        case hrun =>
          intro D y wz hW hD R hR
          have HRR := Lib.hid hR
          clear hR
          have HW := Lib.hid hW
          clear hW hD
          go_wp2_with fail
          exact HRR.out _ HW.out
        case hnp => rfl
        case hv => first | exact ⟨_, fun _ => rfl⟩ | exact ⟨undef, fun _ => rfl⟩
        apply obl_det
        case hrun =>
          intro D y wz hW hD R hR
          have HRR := Lib.hid hR
          clear hR
          have h0 : D 14 = false := hD.not
          rw [h0] at hW
          clear h0
          have HW := Lib.hid hW
          clear hW hD
          refine wpList_cell_bz (o := ⟨none, .store 3 (.tmp 56) (.tmp 55), _, _, _, _⟩) rfl 3 _ _ rfl HW.out 2 (w.heap.size + 1 + 1) 1 _ 25 rfl ?_ (.int .i64 HI) ?_ ?_ ?_ ?_ ?_
          · exact rfl
          · exact congrArg (Value.int .i64) HVAL.out
          · simp
          · exact rfl
          · exact info3
          intro w6 hC6 hz6
          have HC6 := Lib.hid hC6
          clear hC6 hz6
          simp only [Act.put]
          go_simp
          exact HRR.out _ HC6.out
        case hnp => rfl
        case hv => first | exact ⟨_, fun _ => rfl⟩ | exact ⟨undef, fun _ => rfl⟩
        apply obl_nil
        intro D y wB hall hW
        rw [hall 14 (by decide)] at hW
        have HC7 := Lib.hid hW
        clear hW hall
        go_wp2_with fail
        go_meet
        case rel => exact HC7.out
      · have HX : Hid (HI = 2000) := by unfold Hid; rw [← HDEF.out, if_neg (by omega), if_neg (by omega)]
        go_wp2_with fail
        go_meet
        case rel => rw [HX.out]; exact CS.out
  case rest =>
    clear CS
    have CS := hcut
    clear hcut
    go_upto_block 1 with fail
    try simp only [Act.put, List.setIfInBounds_toArray, List.set]
    obtain ⟨SZ, HSZ⟩ : ∃ z, Hid ((if mp ≤ 0 then ((1 : Int), HI) else if sq = 0 then (1, 0) else (max 1 ((mp + sq * 1000 - 1) / (sq * 1000)), HI)) = z) := ⟨_, rfl⟩
    go_cut [80] from 80 (fun s80 wc => Hid (Bs w [(w.heap.size, .cells #[.slice va s.wicks.length vc, .slice xa s.waxes.length xc, .int .i64 s.flame.1, .int .i64 s.flame.2, .int .i64 s.pool.1, .int .i64 s.pool.2] 27), (w.heap.size + 1, .cells #[.int .i64 c.wax, .int .i64 c.dia, .int .i64 c.draught, .int .i64 c.cold.1, .int .i64 c.cold.2] 32), (w.heap.size + 1 + 1, .cells #[.int .i64 SZ.1, .int .i64 SZ.2] 25), (w.heap.size + 1 + 1 + 1, .cells #[.int .i64 (k : Int)] 3), (g, .cells (opC (.slice va s.wicks.length vc) (.slice xa s.waxes.length xc) s c (waxOf s c)) 104), (w2.heap.size, .cells (burnC (leastB s c k)) 66), (w2.heap.size + 1, .cells (burnC (mostB s c k)) 66)] wc))
    case first =>
      have hp0 : wc.cell? ⟨w2.heap.size + 1, 2, none⟩ = some (.int .i64 mp) := by rw [← HMP.out]; exact CS.out.cell 6 rfl 2
      have hg4 : wc.cell? ⟨g, 5, none⟩ = some (.int .i64 sq) := by rw [← HSQ.out]; exact CS.out.cell 4 rfl 5
      rcases Int.lt_or_le 0 mp with hl | hl
      · by_cases hq : sq = 0
        · have HX : Hid (SZ = (1, 0)) := by unfold Hid; rw [← HSZ.out, if_neg (by omega), if_pos hq]
          subst sq
          go_wp2_with (first | (refine wpList_cell_bz (o := ⟨none, .store 3 (.tmp 92) (.const (.int .i64 0)), _, _, _, _⟩) rfl 3 _ _ rfl CS.out 2 (w.heap.size + 1 + 1) 1 _ 25 rfl ?_ (.int .i64 0) ?_ ?_ ?_ ?_ ?_; (exact rfl); (exact rfl); (simp); (exact rfl); (exact info3); intro w7 hC7 hz7; have HC7 : Hid (Bs w [(w.heap.size, .cells #[.slice va s.wicks.length vc, .slice xa s.waxes.length xc, .int .i64 s.flame.1, .int .i64 s.flame.2, .int .i64 s.pool.1, .int .i64 s.pool.2] 27), (w.heap.size + 1, .cells #[.int .i64 c.wax, .int .i64 c.dia, .int .i64 c.draught, .int .i64 c.cold.1, .int .i64 c.cold.2] 32), (w.heap.size + 1 + 1, .cells #[.int .i64 1, .int .i64 0] 25), (w.heap.size + 1 + 1 + 1, .cells #[.int .i64 (k : Int)] 3), (g, .cells (opC (.slice va s.wicks.length vc) (.slice xa s.waxes.length xc) s c (waxOf s c)) 104), (w2.heap.size, .cells (burnC (leastB s c k)) 66), (w2.heap.size + 1, .cells (burnC (mostB s c k)) 66)] w7) := hC7; clear hC7 hz7) | fail)
          simp only [Act.put]
          go_meet
          case rel => rw [HX.out]; exact HC7.out
        · have HX : Hid (SZ = (max 1 ((mp + sq * 1000 - 1) / (sq * 1000)), HI)) := by unfold Hid; rw [← HSZ.out, if_neg (by omega), if_neg hq]
          go_wp2_with fail
          obtain ⟨q, HQ⟩ : ∃ q, Hid ((mp + sq * 1000 - 1) / (sq * 1000) = q) := ⟨_, rfl⟩
          rw [HQ.out] at HX
          have hmb : mp ≤ 1000000000000 := by rw [← HMP.out]; exact (pool_b (hs0.out.bok hk) (hs0.out.bok hk).most).1.2
          have hqp : 1 ≤ sq := by omega
          have HVAL : Hid (max 1 ((mp + sq * 1000 - 1) / (sq * 1000)) = SZ.1) := by
            unfold Hid
            rw [HQ.out, HX.out]
          have HZ2 : Hid (SZ.2 = HI) := by unfold Hid; rw [HX.out]
          have hq0 : (sq == 0) = false := by simpa using hq
          simp only [hq0]
          clear HX hq0
          refine wp_region_inv0 (by kernel_rfl) (by kernel_rfl) (fun D w' => Bs w [(w.heap.size, .cells #[.slice va s.wicks.length vc, .slice xa s.waxes.length xc, .int .i64 s.flame.1, .int .i64 s.flame.2, .int .i64 s.pool.1, .int .i64 s.pool.2] 27), (w.heap.size + 1, .cells #[.int .i64 c.wax, .int .i64 c.dia, .int .i64 c.draught, .int .i64 c.cold.1, .int .i64 c.cold.2] 32), (w.heap.size + 1 + 1, .cells (cond (D 23) #[.int .i64 SZ.1, .int .i64 HI] #[.int .i64 1, .int .i64 HI]) 25), (w.heap.size + 1 + 1 + 1, .cells #[.int .i64 (k : Int)] 3), (g, .cells (opC (.slice va s.wicks.length vc) (.slice xa s.waxes.length xc) s c (waxOf s c)) 104), (w2.heap.size, .cells (burnC (leastB s c k)) 66), (w2.heap.size + 1, .cells (burnC (mostB s c k)) 66)] w') CS.out.drew ?_
          apply obl_det
          case hrun =>
            intro D y wz hW hD R hR
            have HRR := Lib.hid hR
            clear hR
            have HW := Lib.hid hW
            clear hW hD
            go_wp2_with fail
            exact HRR.out _ HW.out
          case hnp => rfl
          case hv => first | exact ⟨_, fun _ => rfl⟩ | exact ⟨undef, fun _ => rfl⟩
          apply obl_det
          case hrun =>
            intro D y wz hW hD R hR
            have HRR := Lib.hid hR
            clear hR
            have HW := Lib.hid hW
            have h0 : D 23 = false := hD.post _ 23 rfl (by kernel_rfl)
            have h1 : wz.cell? ⟨w.heap.size + 1 + 1, 0, none⟩ = some (.int .i64 1) := by
              have h := HW.out
              rw [h0] at h
              exact h.cell 2 rfl 0
            clear h0
            clear hW
            go_wp2_with fail
            exact HRR.out _ HW.out
          case hnp => rfl
          case hv => first | exact ⟨_, fun _ => rfl⟩ | exact ⟨undef, fun _ => rfl⟩
          apply obl_det
          case hrun =>
            intro D y wz hW hD R hR
            have HRR := Lib.hid hR
            clear hR
            have HW := Lib.hid hW
            clear hW hD
            go_wp2_with fail
            exact HRR.out _ HW.out
          case hnp => rfl
          case hv => first | exact ⟨_, fun _ => rfl⟩ | exact ⟨undef, fun _ => rfl⟩
          apply obl_det
          case hrun =>
            intro D y wz hW hD R hR
            have HRR := Lib.hid hR
            clear hR
            have HW := Lib.hid hW
            have h1 : wz.cell? ⟨w2.heap.size + 1, 2, none⟩ = some (.int .i64 mp) := by rw [← HMP.out]; exact HW.out.cell 6 rfl 2
            clear hW hD
            go_wp2_with fail
            exact HRR.out _ HW.out
          case hnp => rfl
          case hv => first | exact ⟨_, fun _ => rfl⟩ | exact ⟨undef, fun _ => rfl⟩
          apply obl_det
          case hrun =>
            intro D y wz hW hD R hR
            have HRR := Lib.hid hR
            clear hR
            have HW := Lib.hid hW
            clear hW hD
            go_wp2_with fail
            exact HRR.out _ HW.out
          case hnp => rfl
          case hv => first | exact ⟨_, fun _ => rfl⟩ | exact ⟨undef, fun _ => rfl⟩
          apply obl_det
          case hrun =>
            intro D y wz hW hD R hR
            have HRR := Lib.hid hR
            clear hR
            have HW := Lib.hid hW
            clear hW hD
            go_wp2_with fail
            exact HRR.out _ HW.out
          case hnp => rfl
          case hv => first | exact ⟨_, fun _ => rfl⟩ | exact ⟨undef, fun _ => rfl⟩
          apply obl_det
          case hrun =>
            intro D y wz hW hD R hR
            have HRR := Lib.hid hR
            clear hR
            have HW := Lib.hid hW
            clear hW hD
            go_wp2_with fail
            exact HRR.out _ HW.out
          case hnp => rfl
          case hv => first | exact ⟨_, fun _ => rfl⟩ | exact ⟨undef, fun _ => rfl⟩
          apply obl_det
          case hrun =>
            intro D y wz hW hD R hR
            have HRR := Lib.hid hR
            clear hR
            have HW := Lib.hid hW
            clear hW hD
            go_wp2_with fail
            exact HRR.out _ HW.out
          case hnp => rfl
          case hv => first | exact ⟨_, fun _ => rfl⟩ | exact ⟨undef, fun _ => rfl⟩
          apply obl_det
          case hrun =>
            intro D y wz hW hD R hR
            have HRR := Lib.hid hR
            clear hR
            have HW := Lib.hid hW
            clear hW hD
            go_wp2_with fail
            exact HRR.out _ HW.out
          case hnp => rfl
          case hv => first | exact ⟨_, fun _ => rfl⟩ | exact ⟨undef, fun _ => rfl⟩
          apply obl_det
          case hrun =>
            intro D y wz hW hD R hR
            have HRR := Lib.hid hR
            clear hR
            have HW := Lib.hid hW
            have h1 : wz.cell? ⟨g, 5, none⟩ = some (.int .i64 sq) := by rw [← HSQ.out]; exact HW.out.cell 4 rfl 5
            clear hW hD
            go_wp2_with fail
            exact HRR.out _ HW.out
          case hnp => rfl
          case hv => first | exact ⟨_, fun _ => rfl⟩ | exact ⟨undef, fun _ => rfl⟩
          apply obl_det
          case hrun =>
            intro D y wz hW hD R hR
            have HRR := Lib.hid hR
            clear hR
            have HW := Lib.hid hW
            clear hW hD
            go_wp2_with fail
            exact HRR.out _ HW.out
          case hnp => rfl
          case hv => first | exact ⟨_, fun _ => rfl⟩ | exact ⟨undef, fun _ => rfl⟩
          apply obl_det
          case hrun =>
            intro D y wz hW hD R hR
            have HRR := Lib.hid hR
            clear hR
            have HW := Lib.hid hW
            clear hW hD
            go_wp2_with fail
            exact HRR.out _ HW.out
          case hnp => rfl
          case hv => first | exact ⟨_, fun _ => rfl⟩ | exact ⟨undef, fun _ => rfl⟩
          apply obl_det
          case hrun =>
            intro D y wz hW hD R hR
            have HRR := Lib.hid hR
            clear hR
            have HW := Lib.hid hW
            clear hW hD
            go_wp2_with fail
            exact HRR.out _ HW.out
          case hnp => rfl
          case hv => first | exact ⟨_, fun _ => rfl⟩ | exact ⟨undef, fun _ => rfl⟩
          apply obl_det
          case hrun =>
            intro D y wz hW hD R hR
            have HRR := Lib.hid hR
            clear hR
            have HW := Lib.hid hW
            clear hW hD
            go_wp2_with fail
            exact HRR.out _ HW.out
          case hnp => rfl
          case hv => first | exact ⟨_, fun _ => rfl⟩ | exact ⟨undef, fun _ => rfl⟩
          apply obl_det
          case hrun =>
            intro D y wz hW hD R hR
            have HRR := Lib.hid hR
            clear hR
            have HW := Lib.hid hW
            clear hW hD
            go_wp2_with fail
            exact HRR.out _ HW.out
          case hnp => rfl
          case hv => first | exact ⟨_, fun _ => rfl⟩ | exact ⟨undef, fun _ => rfl⟩
          apply obl_det
          case hrun =>
            intro D y wz hW hD R hR
            have HRR := Lib.hid hR
            clear hR
            have HW := Lib.hid hW
            clear hW hD
            go_wp2_with fail
            exact HRR.out _ HW.out
          case hnp => rfl
          case hv => first | exact ⟨_, fun _ => rfl⟩ | exact ⟨undef, fun _ => rfl⟩
          apply obl_det
          case hrun =>
            intro D y wz hW hD R hR
            have HRR := Lib.hid hR
            clear hR
            have HW := Lib.hid hW
            clear hW hD
            go_wp2_with fail
            exact HRR.out _ HW.out
          case hnp => rfl
          case hv => first | exact ⟨_, fun _ => rfl⟩ | exact ⟨undef, fun _ => rfl⟩
          apply obl_det
          case hrun =>
            intro D y wz hW hD R hR
            have HRR := Lib.hid hR
            clear hR
            have HW := Lib.hid hW
            clear hW hD
            go_wp2_with fail
            exact HRR.out _ HW.out
          case hnp => rfl
          case hv => first | exact ⟨_, fun _ => rfl⟩ | exact ⟨undef, fun _ => rfl⟩
          apply obl_det
          case hrun =>
            intro D y wz hW hD R hR
            have HRR := Lib.hid hR
            clear hR
            have HW := Lib.hid hW
            have h1 : wz.cell? ⟨g, 5, none⟩ = some (.int .i64 sq) := by rw [← HSQ.out]; exact HW.out.cell 4 rfl 5
            clear hW hD
            go_wp2_with fail
            exact HRR.out _ HW.out
          case hnp => rfl
          case hv => first | exact ⟨_, fun _ => rfl⟩ | exact ⟨undef, fun _ => rfl⟩
          apply obl_det
          case hrun =>
            intro D y wz hW hD R hR
            have HRR := Lib.hid hR
            clear hR
            have HW := Lib.hid hW
            clear hW hD
            go_wp2_with fail
            exact HRR.out _ HW.out
          case hnp => rfl
          case hv => first | exact ⟨_, fun _ => rfl⟩ | exact ⟨undef, fun _ => rfl⟩
          apply obl_det
          case hrun =>
            intro D y wz hW hD R hR
            have HRR := Lib.hid hR
            clear hR
            have HW := Lib.hid hW
            clear hW hD
            go_wp2_with fail
            exact HRR.out _ HW.out
          case hnp => rfl
          case hv => first | exact ⟨_, fun _ => rfl⟩ | exact ⟨undef, fun _ => rfl⟩
          apply obl_det
          case hrun =>
            intro D y wz hW hD R hR
            have HRR := Lib.hid hR
            clear hR
            have HW := Lib.hid hW
            clear hW hD
            go_wp2_with fail
            exact HRR.out _ HW.out
          case hnp => rfl
          case hv => first | exact ⟨_, fun _ => rfl⟩ | exact ⟨undef, fun _ => rfl⟩
          apply obl_det
          case hrun =>
            intro D y wz hW hD R hR
            have HRR := Lib.hid hR
            clear hR
            have HW := Lib.hid hW
            clear hW hD
            go_wp2_with fail
            exact HRR.out _ HW.out
          case hnp => rfl
          case hv => first | exact ⟨_, fun _ => rfl⟩ | exact ⟨undef, fun _ => rfl⟩
          apply obl_det
          case hrun =>
            intro D y wz hW hD R hR
            have HRR := Lib.hid hR
            clear hR
            have h0 : D 23 = false := hD.not
            rw [h0] at hW
            clear h0
            have HW := Lib.hid hW
            clear hW hD
            refine wpList_cell_bz (o := ⟨none, .store 3 (.tmp 79) (.tmp 78), _, _, _, _⟩) rfl 3 _ _ rfl HW.out 2 (w.heap.size + 1 + 1) 0 _ 25 rfl ?_ (.int .i64 SZ.1) ?_ ?_ ?_ ?_ ?_
            · exact rfl
            · exact congrArg (Value.int .i64) HVAL.out
            · simp
            · exact rfl
            · exact info3
            intro w6 hC6 hz6
            have HC6 := Lib.hid hC6
            clear hC6 hz6
            simp only [Act.put]
            go_simp
            exact HRR.out _ HC6.out
          case hnp => rfl
          case hv => first | exact ⟨_, fun _ => rfl⟩ | exact ⟨undef, fun _ => rfl⟩
          apply obl_nil
          intro D y wB hall hW
          rw [hall 23 (by decide)] at hW
          have HC7 := Lib.hid hW
          clear hW hall
          go_wp2_with fail
          go_meet
          case rel => rw [HZ2.out]; exact HC7.out
      · have HX : Hid (SZ = (1, HI)) := by unfold Hid; rw [← HSZ.out, if_pos hl]
        go_wp2_with fail
        go_meet
        case rel => rw [HX.out]; exact CS.out
    case rest =>
      clear CS
      have CS := hcut
      clear hcut
      have HV0 : Hid (sizesV0 s (leastB s c k) (mostB s c k) = SZ) := by unfold Hid sizesV0; rw [HMP.out, HSQ.out, HHI.out]; exact HSZ.out
      clear HSZ HHI
      obtain ⟨a1, HA1⟩ : ∃ q, Hid (SZ.1 = q) := ⟨_, rfl⟩
      obtain ⟨a2, HA2⟩ : ∃ q, Hid (SZ.2 = q) := ⟨_, rfl⟩
      obtain ⟨lf, HLF⟩ : ∃ q, Hid ((leastB s c k).flame = q) := ⟨_, rfl⟩
      obtain ⟨mf, HMF⟩ : ∃ q, Hid ((mostB s c k).flame = q) := ⟨_, rfl⟩
      obtain ⟨f1, HF1⟩ : ∃ q, Hid (s.flame.1 = q) := ⟨_, rfl⟩
      obtain ⟨f2, HF2⟩ : ∃ q, Hid (s.flame.2 = q) := ⟨_, rfl⟩
      have hf1 : 0 ≤ f1 ∧ f1 ≤ 2000 := by rw [← HF1.out]; have := hs0.out.flame; omega
      have hf2 : 0 ≤ f2 ∧ f2 ≤ 2000 := by rw [← HF2.out]; have := hs0.out.flame; omega
      obtain ⟨p1, HP1⟩ : ∃ q, Hid (f1 * 1000000 = q) := ⟨_, rfl⟩
      obtain ⟨p2, HP2⟩ : ∃ q, Hid (f2 * 1000000 = q) := ⟨_, rfl⟩
      have HM1 : Hid (wrap64 (f1 * 1000000) = p1) := by unfold Hid; rw [wrapU (by omega), HP1.out]
      have HM2 : Hid (wrap64 (f2 * 1000000) = p2) := by unfold Hid; rw [wrapU (by omega), HP2.out]
      clear hf1 hf2
      obtain ⟨b1, HB1⟩ : ∃ b, Hid (decide (a2 < a1) = b) := ⟨_, rfl⟩
      obtain ⟨b2, HB2⟩ : ∃ b, Hid (decide (lf < p1) = b) := ⟨_, rfl⟩
      obtain ⟨b3, HB3⟩ : ∃ b, Hid (decide (p2 < mf) = b) := ⟨_, rfl⟩
      go_wp2_with fail
      cases b1
      · cases b2
        · cases b3
          · have HNO := HB3
            refine wp_region_inv0 (by kernel_rfl) (by kernel_rfl) (fun D w' => Bs w [(w.heap.size, .cells #[.slice va s.wicks.length vc, .slice xa s.waxes.length xc, .int .i64 s.flame.1, .int .i64 s.flame.2, .int .i64 s.pool.1, .int .i64 s.pool.2] 27), (w.heap.size + 1, .cells #[.int .i64 c.wax, .int .i64 c.dia, .int .i64 c.draught, .int .i64 c.cold.1, .int .i64 c.cold.2] 32), (w.heap.size + 1 + 1, .cells #[.int .i64 SZ.1, .int .i64 SZ.2] 25), (w.heap.size + 1 + 1 + 1, .cells #[.int .i64 (k : Int)] 3), (g, .cells (opC (.slice va s.wicks.length vc) (.slice xa s.waxes.length xc) s c (waxOf s c)) 104), (w2.heap.size, .cells (burnC (leastB s c k)) 66), (w2.heap.size + 1, .cells (burnC (mostB s c k)) 66)] w') CS.out.drew ?_
            apply obl_det
            case hrun =>
              intro D y wz hW hD R hR
              have HRR := Lib.hid hR
              clear hR
              have HW := Lib.hid hW
              clear hW hD
              go_wp2_with fail
              exact HRR.out _ HW.out
            case hnp => rfl
            case hv => first | exact ⟨_, fun _ => rfl⟩ | exact ⟨undef, fun _ => rfl⟩
            apply obl_det
            case hrun =>
              intro D y wz hW hD R hR
              have HRR := Lib.hid hR
              clear hR
              have HW := Lib.hid hW
              have h1 : wz.cell? ⟨w.heap.size + 1 + 1, 0, none⟩ = some (.int .i64 a1) := by rw [← HA1.out]; exact HW.out.cell 2 rfl 0
              clear hW hD
              go_wp2_with fail
              exact HRR.out _ HW.out
            case hnp => rfl
            case hv => first | exact ⟨_, fun _ => rfl⟩ | exact ⟨undef, fun _ => rfl⟩
            apply obl_det
            case hrun =>
              intro D y wz hW hD R hR
              have HRR := Lib.hid hR
              clear hR
              have HW := Lib.hid hW
              clear hW hD
              go_wp2_with fail
              exact HRR.out _ HW.out
            case hnp => rfl
            case hv => first | exact ⟨_, fun _ => rfl⟩ | exact ⟨undef, fun _ => rfl⟩
            apply obl_det
            case hrun =>
              intro D y wz hW hD R hR
              have HRR := Lib.hid hR
              clear hR
              have HW := Lib.hid hW
              have h1 : wz.cell? ⟨w.heap.size + 1 + 1, 1, none⟩ = some (.int .i64 a2) := by rw [← HA2.out]; exact HW.out.cell 2 rfl 1
              clear hW hD
              go_wp2_with fail
              exact HRR.out _ HW.out
            case hnp => rfl
            case hv => first | exact ⟨_, fun _ => rfl⟩ | exact ⟨undef, fun _ => rfl⟩
            apply obl_det
            case hrun =>
              intro D y wz hW hD R hR
              have HRR := Lib.hid hR
              clear hR
              have HW := Lib.hid hW
              clear hW hD
              go_wp2_with fail
              simp only [HB1.out]
              exact HRR.out _ HW.out
            case hnp => rfl
            case hv => first | exact ⟨_, fun _ => rfl⟩ | exact ⟨undef, fun _ => rfl⟩
            apply obl_det
            case hrun =>
              intro D y wz hW hD R hR
              have HRR := Lib.hid hR
              clear hR
              have HW := Lib.hid hW
              clear hW hD
              go_wp2_with fail
              exact HRR.out _ HW.out
            case hnp => rfl
            case hv => first | exact ⟨_, fun _ => rfl⟩ | exact ⟨undef, fun _ => rfl⟩
            apply obl_det
            case hrun =>
              intro D y wz hW hD R hR
              have HRR := Lib.hid hR
              clear hR
              have HW := Lib.hid hW
              clear hW hD
              go_wp2_with fail
              exact HRR.out _ HW.out
            case hnp => rfl
            case hv => first | exact ⟨_, fun _ => rfl⟩ | exact ⟨undef, fun _ => rfl⟩
            apply obl_det
            case hrun =>
              intro D y wz hW hD R hR
              have HRR := Lib.hid hR
              clear hR
              have HW := Lib.hid hW
              have h1 : wz.cell? ⟨w2.heap.size, 1, none⟩ = some (.int .i64 lf) := by rw [← HLF.out]; exact HW.out.cell 5 rfl 1
              clear hW hD
              go_wp2_with fail
              exact HRR.out _ HW.out
            case hnp => rfl
            case hv => first | exact ⟨_, fun _ => rfl⟩ | exact ⟨undef, fun _ => rfl⟩
            apply obl_det
            case hrun =>
              intro D y wz hW hD R hR
              have HRR := Lib.hid hR
              clear hR
              have HW := Lib.hid hW
              clear hW hD
              go_wp2_with fail
              exact HRR.out _ HW.out
            case hnp => rfl
            case hv => first | exact ⟨_, fun _ => rfl⟩ | exact ⟨undef, fun _ => rfl⟩
            apply obl_det
            case hrun =>
              intro D y wz hW hD R hR
              have HRR := Lib.hid hR
              clear hR
              have HW := Lib.hid hW
              have h1 := HW.out.cell 4 rfl 0
              clear hW hD
              go_wp2_with fail
              exact HRR.out _ HW.out
            case hnp => rfl
            case hv => first | exact ⟨_, fun _ => rfl⟩ | exact ⟨undef, fun _ => rfl⟩
            apply obl_det
            case hrun =>
              intro D y wz hW hD R hR
              have HRR := Lib.hid hR
              clear hR
              have HW := Lib.hid hW
              clear hW hD
              go_wp2_with fail
              exact HRR.out _ HW.out
            case hnp => rfl
            case hv => first | exact ⟨_, fun _ => rfl⟩ | exact ⟨undef, fun _ => rfl⟩
            apply obl_det
            case hrun =>
              intro D y wz hW hD R hR
              have HRR := Lib.hid hR
              clear hR
              have HW := Lib.hid hW
              clear hW hD
              go_wp2_with fail
              exact HRR.out _ HW.out
            case hnp => rfl
            case hv => first | exact ⟨_, fun _ => rfl⟩ | exact ⟨undef, fun _ => rfl⟩
            apply obl_det
            case hrun =>
              intro D y wz hW hD R hR
              have HRR := Lib.hid hR
              clear hR
              have HW := Lib.hid hW
              clear hW hD
              go_wp2_with fail
              exact HRR.out _ HW.out
            case hnp => rfl
            case hv => first | exact ⟨_, fun _ => rfl⟩ | exact ⟨undef, fun _ => rfl⟩
            apply obl_det
            case hrun =>
              intro D y wz hW hD R hR
              have HRR := Lib.hid hR
              clear hR
              have HW := Lib.hid hW
              have h1 : wz.cell? ⟨g, 2, none⟩ = some (.int .i64 f1) := by rw [← HF1.out]; exact HW.out.cell 4 rfl 2
              clear hW hD
              go_wp2_with fail
              exact HRR.out _ HW.out
            case hnp => rfl
            case hv => first | exact ⟨_, fun _ => rfl⟩ | exact ⟨undef, fun _ => rfl⟩
            apply obl_det
            case hrun =>
              intro D y wz hW hD R hR
              have HRR := Lib.hid hR
              clear hR
              have HW := Lib.hid hW
              clear hW hD
              go_wp2_with fail
              first | rw [HM1.out] | rw [HP1.out]
              exact HRR.out _ HW.out
            case hnp => rfl
            case hv => first | exact ⟨_, fun _ => rfl⟩ | exact ⟨undef, fun _ => rfl⟩
            apply obl_det
            case hrun =>
              intro D y wz hW hD R hR
              have HRR := Lib.hid hR
              clear hR
              have HW := Lib.hid hW
              clear hW hD
              go_wp2_with fail
              simp only [HB2.out]
              exact HRR.out _ HW.out
            case hnp => rfl
            case hv => first | exact ⟨_, fun _ => rfl⟩ | exact ⟨undef, fun _ => rfl⟩
            apply obl_det
            case hrun =>
              intro D y wz hW hD R hR
              have HRR := Lib.hid hR
              clear hR
              have HW := Lib.hid hW
              clear hW hD
              go_wp2_with fail
              exact HRR.out _ HW.out
            case hnp => rfl
            case hv => first | exact ⟨_, fun _ => rfl⟩ | exact ⟨undef, fun _ => rfl⟩
            apply obl_det
            case hrun =>
              intro D y wz hW hD R hR
              have HRR := Lib.hid hR
              clear hR
              have HW := Lib.hid hW
              clear hW hD
              go_wp2_with fail
              exact HRR.out _ HW.out
            case hnp => rfl
            case hv => first | exact ⟨_, fun _ => rfl⟩ | exact ⟨undef, fun _ => rfl⟩
            apply obl_det
            case hrun =>
              intro D y wz hW hD R hR
              have HRR := Lib.hid hR
              clear hR
              have HW := Lib.hid hW
              clear hW hD
              go_wp2_with fail
              exact HRR.out _ HW.out
            case hnp => rfl
            case hv => first | exact ⟨_, fun _ => rfl⟩ | exact ⟨undef, fun _ => rfl⟩
            apply obl_det
            case hrun =>
              intro D y wz hW hD R hR
              have HRR := Lib.hid hR
              clear hR
              have HW := Lib.hid hW
              have h1 : wz.cell? ⟨w2.heap.size + 1, 1, none⟩ = some (.int .i64 mf) := by rw [← HMF.out]; exact HW.out.cell 6 rfl 1
              clear hW hD
              go_wp2_with fail
              exact HRR.out _ HW.out
            case hnp => rfl
            case hv => first | exact ⟨_, fun _ => rfl⟩ | exact ⟨undef, fun _ => rfl⟩
            apply obl_det
            case hrun =>
              intro D y wz hW hD R hR
              have HRR := Lib.hid hR
              clear hR
              have HW := Lib.hid hW
              clear hW hD
              go_wp2_with fail
              exact HRR.out _ HW.out
            case hnp => rfl
            case hv => first | exact ⟨_, fun _ => rfl⟩ | exact ⟨undef, fun _ => rfl⟩
            apply obl_det
            case hrun =>
              intro D y wz hW hD R hR
              have HRR := Lib.hid hR
              clear hR
              have HW := Lib.hid hW
              have h1 := HW.out.cell 4 rfl 0
              clear hW hD
              go_wp2_with fail
              exact HRR.out _ HW.out
            case hnp => rfl
            case hv => first | exact ⟨_, fun _ => rfl⟩ | exact ⟨undef, fun _ => rfl⟩
            apply obl_det
            case hrun =>
              intro D y wz hW hD R hR
              have HRR := Lib.hid hR
              clear hR
              have HW := Lib.hid hW
              clear hW hD
              go_wp2_with fail
              exact HRR.out _ HW.out
            case hnp => rfl
            case hv => first | exact ⟨_, fun _ => rfl⟩ | exact ⟨undef, fun _ => rfl⟩
            apply obl_det
            case hrun =>
              intro D y wz hW hD R hR
              have HRR := Lib.hid hR
              clear hR
              have HW := Lib.hid hW
              clear hW hD
              go_wp2_with fail
              exact HRR.out _ HW.out
            case hnp => rfl
            case hv => first | exact ⟨_, fun _ => rfl⟩ | exact ⟨undef, fun _ => rfl⟩
            apply obl_det
            case hrun =>
              intro D y wz hW hD R hR
              have HRR := Lib.hid hR
              clear hR
              have HW := Lib.hid hW
              clear hW hD
              go_wp2_with fail
              exact HRR.out _ HW.out
            case hnp => rfl
            case hv => first | exact ⟨_, fun _ => rfl⟩ | exact ⟨undef, fun _ => rfl⟩
            apply obl_det
            case hrun =>
              intro D y wz hW hD R hR
              have HRR := Lib.hid hR
              clear hR
              have HW := Lib.hid hW
              have h1 : wz.cell? ⟨g, 3, none⟩ = some (.int .i64 f2) := by rw [← HF2.out]; exact HW.out.cell 4 rfl 3
              clear hW hD
              go_wp2_with fail
              exact HRR.out _ HW.out
            case hnp => rfl
            case hv => first | exact ⟨_, fun _ => rfl⟩ | exact ⟨undef, fun _ => rfl⟩
            apply obl_det
            case hrun =>
              intro D y wz hW hD R hR
              have HRR := Lib.hid hR
              clear hR
              have HW := Lib.hid hW
              clear hW hD
              go_wp2_with fail
              first | rw [HM2.out] | rw [HP2.out]
              exact HRR.out _ HW.out
            case hnp => rfl
            case hv => first | exact ⟨_, fun _ => rfl⟩ | exact ⟨undef, fun _ => rfl⟩
            apply obl_det
            case hrun =>
              intro D y wz hW hD R hR
              have HRR := Lib.hid hR
              clear hR
              have HW := Lib.hid hW
              clear hW hD
              go_wp2_with fail
              simp only [HB3.out]
              exact HRR.out _ HW.out
            case hnp => rfl
            case hv => first | exact ⟨_, fun _ => rfl⟩ | exact ⟨undef, fun _ => rfl⟩
            apply obl_det
            case hrun =>
              intro D y wz hW hD R hR
              have HRR := Lib.hid hR
              clear hR
              have HW := Lib.hid hW
              clear hW hD
              go_wp2_with fail
              exact HRR.out _ HW.out
            case hnp => rfl
            case hv => first | exact ⟨_, fun _ => rfl⟩ | exact ⟨undef, fun _ => rfl⟩
            apply obl_nil
            intro D y w8 hall hW
            have C8 := Lib.hid hW
            clear hall hW
            obtain ⟨hbe, hbv⟩ := sizes_good (s := s) (c := c) (k := k) (by rw [HV0.out, HA1.out, HA2.out]; exact of_decide_eq_false HB1.out) (by unfold goesOut; rw [HLF.out, HF1.out, HP1.out]; exact HB2.out) (by unfold smokes; rw [HMF.out, HF2.out, HP2.out]; exact HB3.out)
            rw [HV0.out] at hbv
            have HBE := Lib.hid hbe
            have HBV := Lib.hid hbv
            clear hbe hbv
            go_wp2_with (first | (refine wpList_load_row rfl 25 _ rfl _ rfl _ _ _ _ (C8.out.get 2 rfl) Tryz.underlying25 rfl infoSpan ?_) | (refine wpList_store_bs rfl 25 _ _ rfl C8.out 2 _ #[.int .i64 SZ.1, .int .i64 SZ.2] _ _ rfl rfl rfl infoSpan rfl (by simp [Value.oneCell']) ?_; intro w9 hC9; have HT3 : Hid (Bs w [(w.heap.size, .cells #[.slice va s.wicks.length vc, .slice xa s.waxes.length xc, .int .i64 s.flame.1, .int .i64 s.flame.2, .int .i64 s.pool.1, .int .i64 s.pool.2] 27), (w.heap.size + 1, .cells #[.int .i64 c.wax, .int .i64 c.dia, .int .i64 c.draught, .int .i64 c.cold.1, .int .i64 c.cold.2] 32), (w.heap.size + 1 + 1, .cells #[.int .i64 SZ.1, .int .i64 SZ.2] 25), (w.heap.size + 1 + 1 + 1, .cells #[.int .i64 (k : Int)] 3), (g, .cells (opC (.slice va s.wicks.length vc) (.slice xa s.waxes.length xc) s c (waxOf s c)) 104), (w2.heap.size, .cells (burnC (leastB s c k)) 66), (w2.heap.size + 1, .cells (burnC (mostB s c k)) 66)] w9) := hC9; clear hC9 C8))
            exact bodyPost_ret (results_row_tmp (fn := Tryz.f9) rfl _ _ _ _ _ _ _ rfl rfl (HT3.out.get 2 rfl) Tryz.underlying25 rfl infoSpan) rfl ⟨by rw [HBE.out, HBV.out]; rfl, HT3.out.bel⟩
          · have HNO := HB3
            refine wp_region_inv0 (by kernel_rfl) (by kernel_rfl) (fun D w' => Bs w [(w.heap.size, .cells #[.slice va s.wicks.length vc, .slice xa s.waxes.length xc, .int .i64 s.flame.1, .int .i64 s.flame.2, .int .i64 s.pool.1, .int .i64 s.pool.2] 27), (w.heap.size + 1, .cells #[.int .i64 c.wax, .int .i64 c.dia, .int .i64 c.draught, .int .i64 c.cold.1, .int .i64 c.cold.2] 32), (w.heap.size + 1 + 1, .cells #[.int .i64 SZ.1, .int .i64 SZ.2] 25), (w.heap.size + 1 + 1 + 1, .cells #[.int .i64 (k : Int)] 3), (g, .cells (opC (.slice va s.wicks.length vc) (.slice xa s.waxes.length xc) s c (waxOf s c)) 104), (w2.heap.size, .cells (burnC (leastB s c k)) 66), (w2.heap.size + 1, .cells (burnC (mostB s c k)) 66)] w') CS.out.drew ?_
            apply obl_det
            case hrun =>
              intro D y wz hW hD R hR
              have HRR := Lib.hid hR
              clear hR
              have HW := Lib.hid hW
              clear hW hD
              go_wp2_with fail
              exact HRR.out _ HW.out
            case hnp => rfl
            case hv => first | exact ⟨_, fun _ => rfl⟩ | exact ⟨undef, fun _ => rfl⟩
            apply obl_det
            case hrun =>
              intro D y wz hW hD R hR
              have HRR := Lib.hid hR
              clear hR
              have HW := Lib.hid hW
              have h1 : wz.cell? ⟨w.heap.size + 1 + 1, 0, none⟩ = some (.int .i64 a1) := by rw [← HA1.out]; exact HW.out.cell 2 rfl 0
              clear hW hD
              go_wp2_with fail
              exact HRR.out _ HW.out
            case hnp => rfl
            case hv => first | exact ⟨_, fun _ => rfl⟩ | exact ⟨undef, fun _ => rfl⟩
            apply obl_det
            case hrun =>
              intro D y wz hW hD R hR
              have HRR := Lib.hid hR
              clear hR
              have HW := Lib.hid hW
              clear hW hD
              go_wp2_with fail
              exact HRR.out _ HW.out
            case hnp => rfl
            case hv => first | exact ⟨_, fun _ => rfl⟩ | exact ⟨undef, fun _ => rfl⟩
            apply obl_det
            case hrun =>
              intro D y wz hW hD R hR
              have HRR := Lib.hid hR
              clear hR
              have HW := Lib.hid hW
              have h1 : wz.cell? ⟨w.heap.size + 1 + 1, 1, none⟩ = some (.int .i64 a2) := by rw [← HA2.out]; exact HW.out.cell 2 rfl 1
              clear hW hD
              go_wp2_with fail
              exact HRR.out _ HW.out
            case hnp => rfl
            case hv => first | exact ⟨_, fun _ => rfl⟩ | exact ⟨undef, fun _ => rfl⟩
            apply obl_det
            case hrun =>
              intro D y wz hW hD R hR
              have HRR := Lib.hid hR
              clear hR
              have HW := Lib.hid hW
              clear hW hD
              go_wp2_with fail
              simp only [HB1.out]
              exact HRR.out _ HW.out
            case hnp => rfl
            case hv => first | exact ⟨_, fun _ => rfl⟩ | exact ⟨undef, fun _ => rfl⟩
            apply obl_det
            case hrun =>
              intro D y wz hW hD R hR
              have HRR := Lib.hid hR
              clear hR
              have HW := Lib.hid hW
              clear hW hD
              go_wp2_with fail
              exact HRR.out _ HW.out
            case hnp => rfl
            case hv => first | exact ⟨_, fun _ => rfl⟩ | exact ⟨undef, fun _ => rfl⟩
            apply obl_det
            case hrun =>
              intro D y wz hW hD R hR
              have HRR := Lib.hid hR
              clear hR
              have HW := Lib.hid hW
              clear hW hD
              go_wp2_with fail
              exact HRR.out _ HW.out
            case hnp => rfl
            case hv => first | exact ⟨_, fun _ => rfl⟩ | exact ⟨undef, fun _ => rfl⟩
            apply obl_det
            case hrun =>
              intro D y wz hW hD R hR
              have HRR := Lib.hid hR
              clear hR
              have HW := Lib.hid hW
              have h1 : wz.cell? ⟨w2.heap.size, 1, none⟩ = some (.int .i64 lf) := by rw [← HLF.out]; exact HW.out.cell 5 rfl 1
              clear hW hD
              go_wp2_with fail
              exact HRR.out _ HW.out
            case hnp => rfl
            case hv => first | exact ⟨_, fun _ => rfl⟩ | exact ⟨undef, fun _ => rfl⟩
            apply obl_det
            case hrun =>
              intro D y wz hW hD R hR
              have HRR := Lib.hid hR
              clear hR
              have HW := Lib.hid hW
              clear hW hD
              go_wp2_with fail
              exact HRR.out _ HW.out
            case hnp => rfl
            case hv => first | exact ⟨_, fun _ => rfl⟩ | exact ⟨undef, fun _ => rfl⟩
            apply obl_det
            case hrun =>
              intro D y wz hW hD R hR
              have HRR := Lib.hid hR
              clear hR
              have HW := Lib.hid hW
              have h1 := HW.out.cell 4 rfl 0
              clear hW hD
              go_wp2_with fail
              exact HRR.out _ HW.out
            case hnp => rfl
            case hv => first | exact ⟨_, fun _ => rfl⟩ | exact ⟨undef, fun _ => rfl⟩
            apply obl_det
            case hrun =>
              intro D y wz hW hD R hR
              have HRR := Lib.hid hR
              clear hR
              have HW := Lib.hid hW
              clear hW hD
              go_wp2_with fail
              exact HRR.out _ HW.out
            case hnp => rfl
            case hv => first | exact ⟨_, fun _ => rfl⟩ | exact ⟨undef, fun _ => rfl⟩
            apply obl_det
            case hrun =>
              intro D y wz hW hD R hR
              have HRR := Lib.hid hR
              clear hR
              have HW := Lib.hid hW
              clear hW hD
              go_wp2_with fail
              exact HRR.out _ HW.out
            case hnp => rfl
            case hv => first | exact ⟨_, fun _ => rfl⟩ | exact ⟨undef, fun _ => rfl⟩
            apply obl_det
            case hrun =>
              intro D y wz hW hD R hR
              have HRR := Lib.hid hR
              clear hR
              have HW := Lib.hid hW
              clear hW hD
              go_wp2_with fail
              exact HRR.out _ HW.out
            case hnp => rfl
            case hv => first | exact ⟨_, fun _ => rfl⟩ | exact ⟨undef, fun _ => rfl⟩
            apply obl_det
            case hrun =>
              intro D y wz hW hD R hR
              have HRR := Lib.hid hR
              clear hR
              have HW := Lib.hid hW
              have h1 : wz.cell? ⟨g, 2, none⟩ = some (.int .i64 f1) := by rw [← HF1.out]; exact HW.out.cell 4 rfl 2
              clear hW hD
              go_wp2_with fail
              exact HRR.out _ HW.out
            case hnp => rfl
            case hv => first | exact ⟨_, fun _ => rfl⟩ | exact ⟨undef, fun _ => rfl⟩
            apply obl_det
            case hrun =>
              intro D y wz hW hD R hR
              have HRR := Lib.hid hR
              clear hR
              have HW := Lib.hid hW
              clear hW hD
              go_wp2_with fail
              first | rw [HM1.out] | rw [HP1.out]
              exact HRR.out _ HW.out
            case hnp => rfl
            case hv => first | exact ⟨_, fun _ => rfl⟩ | exact ⟨undef, fun _ => rfl⟩
            apply obl_det
            case hrun =>
              intro D y wz hW hD R hR
              have HRR := Lib.hid hR
              clear hR
              have HW := Lib.hid hW
              clear hW hD
              go_wp2_with fail
              simp only [HB2.out]
              exact HRR.out _ HW.out
            case hnp => rfl
            case hv => first | exact ⟨_, fun _ => rfl⟩ | exact ⟨undef, fun _ => rfl⟩
            apply obl_det
            case hrun =>
              intro D y wz hW hD R hR
              have HRR := Lib.hid hR
              clear hR
              have HW := Lib.hid hW
              clear hW hD
              go_wp2_with fail
              exact HRR.out _ HW.out
            case hnp => rfl
            case hv => first | exact ⟨_, fun _ => rfl⟩ | exact ⟨undef, fun _ => rfl⟩
            apply obl_det
            case hrun =>
              intro D y wz hW hD R hR
              have HRR := Lib.hid hR
              clear hR
              have HW := Lib.hid hW
              clear hW hD
              go_wp2_with fail
              exact HRR.out _ HW.out
            case hnp => rfl
            case hv => first | exact ⟨_, fun _ => rfl⟩ | exact ⟨undef, fun _ => rfl⟩
            apply obl_det
            case hrun =>
              intro D y wz hW hD R hR
              have HRR := Lib.hid hR
              clear hR
              have HW := Lib.hid hW
              clear hW hD
              go_wp2_with fail
              exact HRR.out _ HW.out
            case hnp => rfl
            case hv => first | exact ⟨_, fun _ => rfl⟩ | exact ⟨undef, fun _ => rfl⟩
            apply obl_det
            case hrun =>
              intro D y wz hW hD R hR
              have HRR := Lib.hid hR
              clear hR
              have HW := Lib.hid hW
              have h1 : wz.cell? ⟨w2.heap.size + 1, 1, none⟩ = some (.int .i64 mf) := by rw [← HMF.out]; exact HW.out.cell 6 rfl 1
              clear hW hD
              go_wp2_with fail
              exact HRR.out _ HW.out
            case hnp => rfl
            case hv => first | exact ⟨_, fun _ => rfl⟩ | exact ⟨undef, fun _ => rfl⟩
            apply obl_det
            case hrun =>
              intro D y wz hW hD R hR
              have HRR := Lib.hid hR
              clear hR
              have HW := Lib.hid hW
              clear hW hD
              go_wp2_with fail
              exact HRR.out _ HW.out
            case hnp => rfl
            case hv => first | exact ⟨_, fun _ => rfl⟩ | exact ⟨undef, fun _ => rfl⟩
            apply obl_det
            case hrun =>
              intro D y wz hW hD R hR
              have HRR := Lib.hid hR
              clear hR
              have HW := Lib.hid hW
              have h1 := HW.out.cell 4 rfl 0
              clear hW hD
              go_wp2_with fail
              exact HRR.out _ HW.out
            case hnp => rfl
            case hv => first | exact ⟨_, fun _ => rfl⟩ | exact ⟨undef, fun _ => rfl⟩
            apply obl_det
            case hrun =>
              intro D y wz hW hD R hR
              have HRR := Lib.hid hR
              clear hR
              have HW := Lib.hid hW
              clear hW hD
              go_wp2_with fail
              exact HRR.out _ HW.out
            case hnp => rfl
            case hv => first | exact ⟨_, fun _ => rfl⟩ | exact ⟨undef, fun _ => rfl⟩
            apply obl_det
            case hrun =>
              intro D y wz hW hD R hR
              have HRR := Lib.hid hR
              clear hR
              have HW := Lib.hid hW
              clear hW hD
              go_wp2_with fail
              exact HRR.out _ HW.out
            case hnp => rfl
            case hv => first | exact ⟨_, fun _ => rfl⟩ | exact ⟨undef, fun _ => rfl⟩
            apply obl_det
            case hrun =>
              intro D y wz hW hD R hR
              have HRR := Lib.hid hR
              clear hR
              have HW := Lib.hid hW
              clear hW hD
              go_wp2_with fail
              exact HRR.out _ HW.out
            case hnp => rfl
            case hv => first | exact ⟨_, fun _ => rfl⟩ | exact ⟨undef, fun _ => rfl⟩
            apply obl_det
            case hrun =>
              intro D y wz hW hD R hR
              have HRR := Lib.hid hR
              clear hR
              have HW := Lib.hid hW
              have h1 : wz.cell? ⟨g, 3, none⟩ = some (.int .i64 f2) := by rw [← HF2.out]; exact HW.out.cell 4 rfl 3
              clear hW hD
              go_wp2_with fail
              exact HRR.out _ HW.out
            case hnp => rfl
            case hv => first | exact ⟨_, fun _ => rfl⟩ | exact ⟨undef, fun _ => rfl⟩
            apply obl_det
            case hrun =>
              intro D y wz hW hD R hR
              have HRR := Lib.hid hR
              clear hR
              have HW := Lib.hid hW
              clear hW hD
              go_wp2_with fail
              first | rw [HM2.out] | rw [HP2.out]
              exact HRR.out _ HW.out
            case hnp => rfl
            case hv => first | exact ⟨_, fun _ => rfl⟩ | exact ⟨undef, fun _ => rfl⟩
            apply obl_det
            case hrun =>
              intro D y wz hW hD R hR
              have HRR := Lib.hid hR
              clear hR
              have HW := Lib.hid hW
              clear hW hD
              go_wp2_with fail
              simp only [HB3.out]
              exact HRR.out _ HW.out
            case hnp => rfl
            case hv => first | exact ⟨_, fun _ => rfl⟩ | exact ⟨undef, fun _ => rfl⟩
            apply obl_det
            case hrun =>
              intro D y wz hW hD R hR
              have HRR := Lib.hid hR
              clear hR
              have HW := Lib.hid hW
              clear hW hD
              go_wp2_with fail
              exact HRR.out _ HW.out
            case hnp => rfl
            case hv => first | exact ⟨_, fun _ => rfl⟩ | exact ⟨undef, fun _ => rfl⟩
            apply obl_nil
            intro D y w8 hall hW
            have C8 := Lib.hid hW
            clear hall hW
            obtain ⟨hbe, hbv⟩ := sizes_bad (s := s) (c := c) (k := k) (by rw [HV0.out]; exact .inr (.inr (by unfold smokes; rw [HMF.out, HF2.out, HP2.out]; exact HB3.out)))
            have HBE := Lib.hid hbe
            have HBV := Lib.hid hbv
            clear hbe hbv
            go_wp2_with (first | (refine wpList_bdU rfl 25 _ rfl _ (by simp only [List.map_toArray, List.map]; rfl) #[.int .i64 0, .int .i64 0] (run_build _ 25 _ _ (by kernel_rfl)) ?_) | (refine wpList_store_bs rfl 25 _ _ rfl C8.out 2 _ #[.int .i64 0, .int .i64 0] _ _ rfl rfl rfl infoSpan rfl (by simp [Value.oneCell']) ?_; intro w9 hC9; have HT3 : Hid (Bs w [(w.heap.size, .cells #[.slice va s.wicks.length vc, .slice xa s.waxes.length xc, .int .i64 s.flame.1, .int .i64 s.flame.2, .int .i64 s.pool.1, .int .i64 s.pool.2] 27), (w.heap.size + 1, .cells #[.int .i64 c.wax, .int .i64 c.dia, .int .i64 c.draught, .int .i64 c.cold.1, .int .i64 c.cold.2] 32), (w.heap.size + 1 + 1, .cells #[.int .i64 0, .int .i64 0] 25), (w.heap.size + 1 + 1 + 1, .cells #[.int .i64 (k : Int)] 3), (g, .cells (opC (.slice va s.wicks.length vc) (.slice xa s.waxes.length xc) s c (waxOf s c)) 104), (w2.heap.size, .cells (burnC (leastB s c k)) 66), (w2.heap.size + 1, .cells (burnC (mostB s c k)) 66)] w9) := hC9; clear hC9 C8))
            exact bodyPost_ret (results_row_tmp (fn := Tryz.f9) rfl _ _ _ _ _ _ _ rfl rfl (HT3.out.get 2 rfl) Tryz.underlying25 rfl infoSpan) rfl ⟨by rw [HBE.out, HBV.out]; rfl, HT3.out.bel⟩
        · have HNO := HB3
          refine wp_region_inv0 (by kernel_rfl) (by kernel_rfl) (fun D w' => Bs w [(w.heap.size, .cells #[.slice va s.wicks.length vc, .slice xa s.waxes.length xc, .int .i64 s.flame.1, .int .i64 s.flame.2, .int .i64 s.pool.1, .int .i64 s.pool.2] 27), (w.heap.size + 1, .cells #[.int .i64 c.wax, .int .i64 c.dia, .int .i64 c.draught, .int .i64 c.cold.1, .int .i64 c.cold.2] 32), (w.heap.size + 1 + 1, .cells #[.int .i64 SZ.1, .int .i64 SZ.2] 25), (w.heap.size + 1 + 1 + 1, .cells #[.int .i64 (k : Int)] 3), (g, .cells (opC (.slice va s.wicks.length vc) (.slice xa s.waxes.length xc) s c (waxOf s c)) 104), (w2.heap.size, .cells (burnC (leastB s c k)) 66), (w2.heap.size + 1, .cells (burnC (mostB s c k)) 66)] w') CS.out.drew ?_
          apply obl_det
          case hrun =>
            intro D y wz hW hD R hR
            have HRR := Lib.hid hR
            clear hR
            have HW := Lib.hid hW
            clear hW hD
            go_wp2_with fail
            exact HRR.out _ HW.out
          case hnp => rfl
          case hv => first | exact ⟨_, fun _ => rfl⟩ | exact ⟨undef, fun _ => rfl⟩
          apply obl_det
          case hrun =>
            intro D y wz hW hD R hR
            have HRR := Lib.hid hR
            clear hR
            have HW := Lib.hid hW
            have h1 : wz.cell? ⟨w.heap.size + 1 + 1, 0, none⟩ = some (.int .i64 a1) := by rw [← HA1.out]; exact HW.out.cell 2 rfl 0
            clear hW hD
            go_wp2_with fail
            exact HRR.out _ HW.out
          case hnp => rfl
          case hv => first | exact ⟨_, fun _ => rfl⟩ | exact ⟨undef, fun _ => rfl⟩
          apply obl_det
          case hrun =>
            intro D y wz hW hD R hR
            have HRR := Lib.hid hR
            clear hR
            have HW := Lib.hid hW
            clear hW hD
            go_wp2_with fail
            exact HRR.out _ HW.out
          case hnp => rfl
          case hv => first | exact ⟨_, fun _ => rfl⟩ | exact ⟨undef, fun _ => rfl⟩
          apply obl_det
          case hrun =>
            intro D y wz hW hD R hR
            have HRR := Lib.hid hR
            clear hR
            have HW := Lib.hid hW
            have h1 : wz.cell? ⟨w.heap.size + 1 + 1, 1, none⟩ = some (.int .i64 a2) := by rw [← HA2.out]; exact HW.out.cell 2 rfl 1
            clear hW hD
            go_wp2_with fail
            exact HRR.out _ HW.out
          case hnp => rfl
          case hv => first | exact ⟨_, fun _ => rfl⟩ | exact ⟨undef, fun _ => rfl⟩
          apply obl_det
          case hrun =>
            intro D y wz hW hD R hR
            have HRR := Lib.hid hR
            clear hR
            have HW := Lib.hid hW
            clear hW hD
            go_wp2_with fail
            simp only [HB1.out]
            exact HRR.out _ HW.out
          case hnp => rfl
          case hv => first | exact ⟨_, fun _ => rfl⟩ | exact ⟨undef, fun _ => rfl⟩
          apply obl_det
          case hrun =>
            intro D y wz hW hD R hR
            have HRR := Lib.hid hR
            clear hR
            have HW := Lib.hid hW
            clear hW hD
            go_wp2_with fail
            exact HRR.out _ HW.out
          case hnp => rfl
          case hv => first | exact ⟨_, fun _ => rfl⟩ | exact ⟨undef, fun _ => rfl⟩
          apply obl_det
          case hrun =>
            intro D y wz hW hD R hR
            have HRR := Lib.hid hR
            clear hR
            have HW := Lib.hid hW
            clear hW hD
            go_wp2_with fail
            exact HRR.out _ HW.out
          case hnp => rfl
          case hv => first | exact ⟨_, fun _ => rfl⟩ | exact ⟨undef, fun _ => rfl⟩
          apply obl_det
          case hrun =>
            intro D y wz hW hD R hR
            have HRR := Lib.hid hR
            clear hR
            have HW := Lib.hid hW
            have h1 : wz.cell? ⟨w2.heap.size, 1, none⟩ = some (.int .i64 lf) := by rw [← HLF.out]; exact HW.out.cell 5 rfl 1
            clear hW hD
            go_wp2_with fail
            exact HRR.out _ HW.out
          case hnp => rfl
          case hv => first | exact ⟨_, fun _ => rfl⟩ | exact ⟨undef, fun _ => rfl⟩
          apply obl_det
          case hrun =>
            intro D y wz hW hD R hR
            have HRR := Lib.hid hR
            clear hR
            have HW := Lib.hid hW
            clear hW hD
            go_wp2_with fail
            exact HRR.out _ HW.out
          case hnp => rfl
          case hv => first | exact ⟨_, fun _ => rfl⟩ | exact ⟨undef, fun _ => rfl⟩
          apply obl_det
          case hrun =>
            intro D y wz hW hD R hR
            have HRR := Lib.hid hR
            clear hR
            have HW := Lib.hid hW
            have h1 := HW.out.cell 4 rfl 0
            clear hW hD
            go_wp2_with fail
            exact HRR.out _ HW.out
          case hnp => rfl
          case hv => first | exact ⟨_, fun _ => rfl⟩ | exact ⟨undef, fun _ => rfl⟩
          apply obl_det
          case hrun =>
            intro D y wz hW hD R hR
            have HRR := Lib.hid hR
            clear hR
            have HW := Lib.hid hW
            clear hW hD
            go_wp2_with fail
            exact HRR.out _ HW.out
          case hnp => rfl
          case hv => first | exact ⟨_, fun _ => rfl⟩ | exact ⟨undef, fun _ => rfl⟩
          apply obl_det
          case hrun =>
            intro D y wz hW hD R hR
            have HRR := Lib.hid hR
            clear hR
            have HW := Lib.hid hW
            clear hW hD
            go_wp2_with fail
            exact HRR.out _ HW.out
          case hnp => rfl
          case hv => first | exact ⟨_, fun _ => rfl⟩ | exact ⟨undef, fun _ => rfl⟩
          apply obl_det
          case hrun =>
            intro D y wz hW hD R hR
            have HRR := Lib.hid hR
            clear hR
            have HW := Lib.hid hW
            clear hW hD
            go_wp2_with fail
            exact HRR.out _ HW.out
          case hnp => rfl
          case hv => first | exact ⟨_, fun _ => rfl⟩ | exact ⟨undef, fun _ => rfl⟩
          apply obl_det
          case hrun =>
            intro D y wz hW hD R hR
            have HRR := Lib.hid hR
            clear hR
            have HW := Lib.hid hW
            have h1 : wz.cell? ⟨g, 2, none⟩ = some (.int .i64 f1) := by rw [← HF1.out]; exact HW.out.cell 4 rfl 2
            clear hW hD
            go_wp2_with fail
            exact HRR.out _ HW.out
          case hnp => rfl
          case hv => first | exact ⟨_, fun _ => rfl⟩ | exact ⟨undef, fun _ => rfl⟩
          apply obl_det
          case hrun =>
            intro D y wz hW hD R hR
            have HRR := Lib.hid hR
            clear hR
            have HW := Lib.hid hW
            clear hW hD
            go_wp2_with fail
            first | rw [HM1.out] | rw [HP1.out]
            exact HRR.out _ HW.out
          case hnp => rfl
          case hv => first | exact ⟨_, fun _ => rfl⟩ | exact ⟨undef, fun _ => rfl⟩
          apply obl_det
          case hrun =>
            intro D y wz hW hD R hR
            have HRR := Lib.hid hR
            clear hR
            have HW := Lib.hid hW
            clear hW hD
            go_wp2_with fail
            simp only [HB2.out]
            exact HRR.out _ HW.out
          case hnp => rfl
          case hv => first | exact ⟨_, fun _ => rfl⟩ | exact ⟨undef, fun _ => rfl⟩
          apply obl_det
          case hrun =>
            intro D y wz hW hD R hR
            have HRR := Lib.hid hR
            clear hR
            have HW := Lib.hid hW
            clear hW hD
            go_wp2_with fail
            exact HRR.out _ HW.out
          case hnp => rfl
          case hv => first | exact ⟨_, fun _ => rfl⟩ | exact ⟨undef, fun _ => rfl⟩
          apply obl_det
          case hrun =>
            intro D y wz hW hD R hR
            have HRR := Lib.hid hR
            clear hR
            have HW := Lib.hid hW
            clear hW hD
            go_wp2_with fail
            exact HRR.out _ HW.out
          case hnp => rfl
          case hv => first | exact ⟨_, fun _ => rfl⟩ | exact ⟨undef, fun _ => rfl⟩
          apply obl_det
          case hrun =>
            intro D y wz hW hD R hR
            have HRR := Lib.hid hR
            clear hR
            have HW := Lib.hid hW
            clear hW hD
            go_wp2_with fail
            exact HRR.out _ HW.out
          case hnp => rfl
          case hv => first | exact ⟨_, fun _ => rfl⟩ | exact ⟨undef, fun _ => rfl⟩
          apply obl_det
          case hrun =>
            intro D y wz hW hD R hR
            have HRR := Lib.hid hR
            clear hR
            have HW := Lib.hid hW
            have h1 : wz.cell? ⟨w2.heap.size + 1, 1, none⟩ = some (.int .i64 mf) := by rw [← HMF.out]; exact HW.out.cell 6 rfl 1
            clear hW hD
            go_wp2_with fail
            exact HRR.out _ HW.out
          case hnp => rfl
          case hv => first | exact ⟨_, fun _ => rfl⟩ | exact ⟨undef, fun _ => rfl⟩
          apply obl_det
          case hrun =>
            intro D y wz hW hD R hR
            have HRR := Lib.hid hR
            clear hR
            have HW := Lib.hid hW
            clear hW hD
            go_wp2_with fail
            exact HRR.out _ HW.out
          case hnp => rfl
          case hv => first | exact ⟨_, fun _ => rfl⟩ | exact ⟨undef, fun _ => rfl⟩
          apply obl_det
          case hrun =>
            intro D y wz hW hD R hR
            have HRR := Lib.hid hR
            clear hR
            have HW := Lib.hid hW
            have h1 := HW.out.cell 4 rfl 0
            clear hW hD
            go_wp2_with fail
            exact HRR.out _ HW.out
          case hnp => rfl
          case hv => first | exact ⟨_, fun _ => rfl⟩ | exact ⟨undef, fun _ => rfl⟩
          apply obl_det
          case hrun =>
            intro D y wz hW hD R hR
            have HRR := Lib.hid hR
            clear hR
            have HW := Lib.hid hW
            clear hW hD
            go_wp2_with fail
            exact HRR.out _ HW.out
          case hnp => rfl
          case hv => first | exact ⟨_, fun _ => rfl⟩ | exact ⟨undef, fun _ => rfl⟩
          apply obl_det
          case hrun =>
            intro D y wz hW hD R hR
            have HRR := Lib.hid hR
            clear hR
            have HW := Lib.hid hW
            clear hW hD
            go_wp2_with fail
            exact HRR.out _ HW.out
          case hnp => rfl
          case hv => first | exact ⟨_, fun _ => rfl⟩ | exact ⟨undef, fun _ => rfl⟩
          apply obl_det
          case hrun =>
            intro D y wz hW hD R hR
            have HRR := Lib.hid hR
            clear hR
            have HW := Lib.hid hW
            clear hW hD
            go_wp2_with fail
            exact HRR.out _ HW.out
          case hnp => rfl
          case hv => first | exact ⟨_, fun _ => rfl⟩ | exact ⟨undef, fun _ => rfl⟩
          apply obl_det
          case hrun =>
            intro D y wz hW hD R hR
            have HRR := Lib.hid hR
            clear hR
            have HW := Lib.hid hW
            have h1 : wz.cell? ⟨g, 3, none⟩ = some (.int .i64 f2) := by rw [← HF2.out]; exact HW.out.cell 4 rfl 3
            clear hW hD
            go_wp2_with fail
            exact HRR.out _ HW.out
          case hnp => rfl
          case hv => first | exact ⟨_, fun _ => rfl⟩ | exact ⟨undef, fun _ => rfl⟩
          apply obl_det
          case hrun =>
            intro D y wz hW hD R hR
            have HRR := Lib.hid hR
            clear hR
            have HW := Lib.hid hW
            clear hW hD
            go_wp2_with fail
            exact HRR.out _ HW.out
          case hnp => rfl
          case hv => first | exact ⟨_, fun _ => rfl⟩ | exact ⟨undef, fun _ => rfl⟩
          apply obl_det
          case hrun =>
            intro D y wz hW hD R hR
            have HRR := Lib.hid hR
            clear hR
            have HW := Lib.hid hW
            clear hW hD
            go_wp2_with fail
            exact HRR.out _ HW.out
          case hnp => rfl
          case hv => first | exact ⟨_, fun _ => rfl⟩ | exact ⟨undef, fun _ => rfl⟩
          apply obl_det
          case hrun =>
            intro D y wz hW hD R hR
            have HRR := Lib.hid hR
            clear hR
            have HW := Lib.hid hW
            clear hW hD
            go_wp2_with fail
            exact HRR.out _ HW.out
          case hnp => rfl
          case hv => first | exact ⟨_, fun _ => rfl⟩ | exact ⟨undef, fun _ => rfl⟩
          apply obl_nil
          intro D y w8 hall hW
          have C8 := Lib.hid hW
          clear hall hW
          obtain ⟨hbe, hbv⟩ := sizes_bad (s := s) (c := c) (k := k) (by rw [HV0.out]; exact .inr (.inl (by unfold goesOut; rw [HLF.out, HF1.out, HP1.out]; exact HB2.out)))
          have HBE := Lib.hid hbe
          have HBV := Lib.hid hbv
          clear hbe hbv
          go_wp2_with (first | (refine wpList_bdU rfl 25 _ rfl _ (by simp only [List.map_toArray, List.map]; rfl) #[.int .i64 0, .int .i64 0] (run_build _ 25 _ _ (by kernel_rfl)) ?_) | (refine wpList_store_bs rfl 25 _ _ rfl C8.out 2 _ #[.int .i64 0, .int .i64 0] _ _ rfl rfl rfl infoSpan rfl (by simp [Value.oneCell']) ?_; intro w9 hC9; have HT3 : Hid (Bs w [(w.heap.size, .cells #[.slice va s.wicks.length vc, .slice xa s.waxes.length xc, .int .i64 s.flame.1, .int .i64 s.flame.2, .int .i64 s.pool.1, .int .i64 s.pool.2] 27), (w.heap.size + 1, .cells #[.int .i64 c.wax, .int .i64 c.dia, .int .i64 c.draught, .int .i64 c.cold.1, .int .i64 c.cold.2] 32), (w.heap.size + 1 + 1, .cells #[.int .i64 0, .int .i64 0] 25), (w.heap.size + 1 + 1 + 1, .cells #[.int .i64 (k : Int)] 3), (g, .cells (opC (.slice va s.wicks.length vc) (.slice xa s.waxes.length xc) s c (waxOf s c)) 104), (w2.heap.size, .cells (burnC (leastB s c k)) 66), (w2.heap.size + 1, .cells (burnC (mostB s c k)) 66)] w9) := hC9; clear hC9 C8))
          exact bodyPost_ret (results_row_tmp (fn := Tryz.f9) rfl _ _ _ _ _ _ _ rfl rfl (HT3.out.get 2 rfl) Tryz.underlying25 rfl infoSpan) rfl ⟨by rw [HBE.out, HBV.out]; rfl, HT3.out.bel⟩
      · have HNO := HB3
        refine wp_region_inv0 (by kernel_rfl) (by kernel_rfl) (fun D w' => Bs w [(w.heap.size, .cells #[.slice va s.wicks.length vc, .slice xa s.waxes.length xc, .int .i64 s.flame.1, .int .i64 s.flame.2, .int .i64 s.pool.1, .int .i64 s.pool.2] 27), (w.heap.size + 1, .cells #[.int .i64 c.wax, .int .i64 c.dia, .int .i64 c.draught, .int .i64 c.cold.1, .int .i64 c.cold.2] 32), (w.heap.size + 1 + 1, .cells #[.int .i64 SZ.1, .int .i64 SZ.2] 25), (w.heap.size + 1 + 1 + 1, .cells #[.int .i64 (k : Int)] 3), (g, .cells (opC (.slice va s.wicks.length vc) (.slice xa s.waxes.length xc) s c (waxOf s c)) 104), (w2.heap.size, .cells (burnC (leastB s c k)) 66), (w2.heap.size + 1, .cells (burnC (mostB s c k)) 66)] w') CS.out.drew ?_
        apply obl_det
        case hrun =>
          intro D y wz hW hD R hR
          have HRR := Lib.hid hR
          clear hR
          have HW := Lib.hid hW
          clear hW hD
          go_wp2_with fail
          exact HRR.out _ HW.out
        case hnp => rfl
        case hv => first | exact ⟨_, fun _ => rfl⟩ | exact ⟨undef, fun _ => rfl⟩
        apply obl_det
        case hrun =>
          intro D y wz hW hD R hR
          have HRR := Lib.hid hR
          clear hR
          have HW := Lib.hid hW
          have h1 : wz.cell? ⟨w.heap.size + 1 + 1, 0, none⟩ = some (.int .i64 a1) := by rw [← HA1.out]; exact HW.out.cell 2 rfl 0
          clear hW hD
          go_wp2_with fail
          exact HRR.out _ HW.out
        case hnp => rfl
        case hv => first | exact ⟨_, fun _ => rfl⟩ | exact ⟨undef, fun _ => rfl⟩
        apply obl_det
        case hrun =>
          intro D y wz hW hD R hR
          have HRR := Lib.hid hR
          clear hR
          have HW := Lib.hid hW
          clear hW hD
          go_wp2_with fail
          exact HRR.out _ HW.out
        case hnp => rfl
        case hv => first | exact ⟨_, fun _ => rfl⟩ | exact ⟨undef, fun _ => rfl⟩
        apply obl_det
        case hrun =>
          intro D y wz hW hD R hR
          have HRR := Lib.hid hR
          clear hR
          have HW := Lib.hid hW
          have h1 : wz.cell? ⟨w.heap.size + 1 + 1, 1, none⟩ = some (.int .i64 a2) := by rw [← HA2.out]; exact HW.out.cell 2 rfl 1
          clear hW hD
          go_wp2_with fail
          exact HRR.out _ HW.out
        case hnp => rfl
        case hv => first | exact ⟨_, fun _ => rfl⟩ | exact ⟨undef, fun _ => rfl⟩
        apply obl_det
        case hrun =>
          intro D y wz hW hD R hR
          have HRR := Lib.hid hR
          clear hR
          have HW := Lib.hid hW
          clear hW hD
          go_wp2_with fail
          simp only [HB1.out]
          exact HRR.out _ HW.out
        case hnp => rfl
        case hv => first | exact ⟨_, fun _ => rfl⟩ | exact ⟨undef, fun _ => rfl⟩
        apply obl_det
        case hrun =>
          intro D y wz hW hD R hR
          have HRR := Lib.hid hR
          clear hR
          have HW := Lib.hid hW
          clear hW hD
          go_wp2_with fail
          exact HRR.out _ HW.out
        case hnp => rfl
        case hv => first | exact ⟨_, fun _ => rfl⟩ | exact ⟨undef, fun _ => rfl⟩
        apply obl_det
        case hrun =>
          intro D y wz hW hD R hR
          have HRR := Lib.hid hR
          clear hR
          have HW := Lib.hid hW
          clear hW hD
          go_wp2_with fail
          exact HRR.out _ HW.out
        case hnp => rfl
        case hv => first | exact ⟨_, fun _ => rfl⟩ | exact ⟨undef, fun _ => rfl⟩
        apply obl_det
        case hrun =>
          intro D y wz hW hD R hR
          have HRR := Lib.hid hR
          clear hR
          have HW := Lib.hid hW
          have h1 : wz.cell? ⟨w2.heap.size, 1, none⟩ = some (.int .i64 lf) := by rw [← HLF.out]; exact HW.out.cell 5 rfl 1
          clear hW hD
          go_wp2_with fail
          exact HRR.out _ HW.out
        case hnp => rfl
        case hv => first | exact ⟨_, fun _ => rfl⟩ | exact ⟨undef, fun _ => rfl⟩
        apply obl_det
        case hrun =>
          intro D y wz hW hD R hR
          have HRR := Lib.hid hR
          clear hR
          have HW := Lib.hid hW
          clear hW hD
          go_wp2_with fail
          exact HRR.out _ HW.out
        case hnp => rfl
        case hv => first | exact ⟨_, fun _ => rfl⟩ | exact ⟨undef, fun _ => rfl⟩
        apply obl_det
        case hrun =>
          intro D y wz hW hD R hR
          have HRR := Lib.hid hR
          clear hR
          have HW := Lib.hid hW
          have h1 := HW.out.cell 4 rfl 0
          clear hW hD
          go_wp2_with fail
          exact HRR.out _ HW.out
        case hnp => rfl
        case hv => first | exact ⟨_, fun _ => rfl⟩ | exact ⟨undef, fun _ => rfl⟩
        apply obl_det
        case hrun =>
          intro D y wz hW hD R hR
          have HRR := Lib.hid hR
          clear hR
          have HW := Lib.hid hW
          clear hW hD
          go_wp2_with fail
          exact HRR.out _ HW.out
        case hnp => rfl
        case hv => first | exact ⟨_, fun _ => rfl⟩ | exact ⟨undef, fun _ => rfl⟩
        apply obl_det
        case hrun =>
          intro D y wz hW hD R hR
          have HRR := Lib.hid hR
          clear hR
          have HW := Lib.hid hW
          clear hW hD
          go_wp2_with fail
          exact HRR.out _ HW.out
        case hnp => rfl
        case hv => first | exact ⟨_, fun _ => rfl⟩ | exact ⟨undef, fun _ => rfl⟩
        apply obl_det
        case hrun =>
          intro D y wz hW hD R hR
          have HRR := Lib.hid hR
          clear hR
          have HW := Lib.hid hW
          clear hW hD
          go_wp2_with fail
          exact HRR.out _ HW.out
        case hnp => rfl
        case hv => first | exact ⟨_, fun _ => rfl⟩ | exact ⟨undef, fun _ => rfl⟩
        apply obl_det
        case hrun =>
          intro D y wz hW hD R hR
          have HRR := Lib.hid hR
          clear hR
          have HW := Lib.hid hW
          have h1 : wz.cell? ⟨g, 2, none⟩ = some (.int .i64 f1) := by rw [← HF1.out]; exact HW.out.cell 4 rfl 2
          clear hW hD
          go_wp2_with fail
          exact HRR.out _ HW.out
        case hnp => rfl
        case hv => first | exact ⟨_, fun _ => rfl⟩ | exact ⟨undef, fun _ => rfl⟩
        apply obl_det
        case hrun =>
          intro D y wz hW hD R hR
          have HRR := Lib.hid hR
          clear hR
          have HW := Lib.hid hW
          clear hW hD
          go_wp2_with fail
          exact HRR.out _ HW.out
        case hnp => rfl
        case hv => first | exact ⟨_, fun _ => rfl⟩ | exact ⟨undef, fun _ => rfl⟩
        apply obl_det
        case hrun =>
          intro D y wz hW hD R hR
          have HRR := Lib.hid hR
          clear hR
          have HW := Lib.hid hW
          clear hW hD
          go_wp2_with fail
          exact HRR.out _ HW.out
        case hnp => rfl
        case hv => first | exact ⟨_, fun _ => rfl⟩ | exact ⟨undef, fun _ => rfl⟩
        apply obl_det
        case hrun =>
          intro D y wz hW hD R hR
          have HRR := Lib.hid hR
          clear hR
          have HW := Lib.hid hW
          clear hW hD
          go_wp2_with fail
          exact HRR.out _ HW.out
        case hnp => rfl
        case hv => first | exact ⟨_, fun _ => rfl⟩ | exact ⟨undef, fun _ => rfl⟩
        apply obl_det
        case hrun =>
          intro D y wz hW hD R hR
          have HRR := Lib.hid hR
          clear hR
          have HW := Lib.hid hW
          clear hW hD
          go_wp2_with fail
          exact HRR.out _ HW.out
        case hnp => rfl
        case hv => first | exact ⟨_, fun _ => rfl⟩ | exact ⟨undef, fun _ => rfl⟩
        apply obl_det
        case hrun =>
          intro D y wz hW hD R hR
          have HRR := Lib.hid hR
          clear hR
          have HW := Lib.hid hW
          clear hW hD
          go_wp2_with fail
          exact HRR.out _ HW.out
        case hnp => rfl
        case hv => first | exact ⟨_, fun _ => rfl⟩ | exact ⟨undef, fun _ => rfl⟩
        apply obl_det
        case hrun =>
          intro D y wz hW hD R hR
          have HRR := Lib.hid hR
          clear hR
          have HW := Lib.hid hW
          have h1 : wz.cell? ⟨w2.heap.size + 1, 1, none⟩ = some (.int .i64 mf) := by rw [← HMF.out]; exact HW.out.cell 6 rfl 1
          clear hW hD
          go_wp2_with fail
          exact HRR.out _ HW.out
        case hnp => rfl
        case hv => first | exact ⟨_, fun _ => rfl⟩ | exact ⟨undef, fun _ => rfl⟩
        apply obl_det
        case hrun =>
          intro D y wz hW hD R hR
          have HRR := Lib.hid hR
          clear hR
          have HW := Lib.hid hW
          clear hW hD
          go_wp2_with fail
          exact HRR.out _ HW.out
        case hnp => rfl
        case hv => first | exact ⟨_, fun _ => rfl⟩ | exact ⟨undef, fun _ => rfl⟩
        apply obl_det
        case hrun =>
          intro D y wz hW hD R hR
          have HRR := Lib.hid hR
          clear hR
          have HW := Lib.hid hW
          have h1 := HW.out.cell 4 rfl 0
          clear hW hD
          go_wp2_with fail
          exact HRR.out _ HW.out
        case hnp => rfl
        case hv => first | exact ⟨_, fun _ => rfl⟩ | exact ⟨undef, fun _ => rfl⟩
        apply obl_det
        case hrun =>
          intro D y wz hW hD R hR
          have HRR := Lib.hid hR
          clear hR
          have HW := Lib.hid hW
          clear hW hD
          go_wp2_with fail
          exact HRR.out _ HW.out
        case hnp => rfl
        case hv => first | exact ⟨_, fun _ => rfl⟩ | exact ⟨undef, fun _ => rfl⟩
        apply obl_det
        case hrun =>
          intro D y wz hW hD R hR
          have HRR := Lib.hid hR
          clear hR
          have HW := Lib.hid hW
          clear hW hD
          go_wp2_with fail
          exact HRR.out _ HW.out
        case hnp => rfl
        case hv => first | exact ⟨_, fun _ => rfl⟩ | exact ⟨undef, fun _ => rfl⟩
        apply obl_det
        case hrun =>
          intro D y wz hW hD R hR
          have HRR := Lib.hid hR
          clear hR
          have HW := Lib.hid hW
          clear hW hD
          go_wp2_with fail
          exact HRR.out _ HW.out
        case hnp => rfl
        case hv => first | exact ⟨_, fun _ => rfl⟩ | exact ⟨undef, fun _ => rfl⟩
        apply obl_det
        case hrun =>
          intro D y wz hW hD R hR
          have HRR := Lib.hid hR
          clear hR
          have HW := Lib.hid hW
          have h1 : wz.cell? ⟨g, 3, none⟩ = some (.int .i64 f2) := by rw [← HF2.out]; exact HW.out.cell 4 rfl 3
          clear hW hD
          go_wp2_with fail
          exact HRR.out _ HW.out
        case hnp => rfl
        case hv => first | exact ⟨_, fun _ => rfl⟩ | exact ⟨undef, fun _ => rfl⟩
        apply obl_det
        case hrun =>
          intro D y wz hW hD R hR
          have HRR := Lib.hid hR
          clear hR
          have HW := Lib.hid hW
          clear hW hD
          go_wp2_with fail
          exact HRR.out _ HW.out
        case hnp => rfl
        case hv => first | exact ⟨_, fun _ => rfl⟩ | exact ⟨undef, fun _ => rfl⟩
        apply obl_det
        case hrun =>
          intro D y wz hW hD R hR
          have HRR := Lib.hid hR
          clear hR
          have HW := Lib.hid hW
          clear hW hD
          go_wp2_with fail
          exact HRR.out _ HW.out
        case hnp => rfl
        case hv => first | exact ⟨_, fun _ => rfl⟩ | exact ⟨undef, fun _ => rfl⟩
        apply obl_det
        case hrun =>
          intro D y wz hW hD R hR
          have HRR := Lib.hid hR
          clear hR
          have HW := Lib.hid hW
          clear hW hD
          go_wp2_with fail
          exact HRR.out _ HW.out
        case hnp => rfl
        case hv => first | exact ⟨_, fun _ => rfl⟩ | exact ⟨undef, fun _ => rfl⟩
        apply obl_nil
        intro D y w8 hall hW
        have C8 := Lib.hid hW
        clear hall hW
        obtain ⟨hbe, hbv⟩ := sizes_bad (s := s) (c := c) (k := k) (by rw [HV0.out]; exact .inl (by rw [HA1.out, HA2.out]; exact of_decide_eq_true HB1.out))
        have HBE := Lib.hid hbe
        have HBV := Lib.hid hbv
        clear hbe hbv
        go_wp2_with (first | (refine wpList_bdU rfl 25 _ rfl _ (by simp only [List.map_toArray, List.map]; rfl) #[.int .i64 0, .int .i64 0] (run_build _ 25 _ _ (by kernel_rfl)) ?_) | (refine wpList_store_bs rfl 25 _ _ rfl C8.out 2 _ #[.int .i64 0, .int .i64 0] _ _ rfl rfl rfl infoSpan rfl (by simp [Value.oneCell']) ?_; intro w9 hC9; have HT3 : Hid (Bs w [(w.heap.size, .cells #[.slice va s.wicks.length vc, .slice xa s.waxes.length xc, .int .i64 s.flame.1, .int .i64 s.flame.2, .int .i64 s.pool.1, .int .i64 s.pool.2] 27), (w.heap.size + 1, .cells #[.int .i64 c.wax, .int .i64 c.dia, .int .i64 c.draught, .int .i64 c.cold.1, .int .i64 c.cold.2] 32), (w.heap.size + 1 + 1, .cells #[.int .i64 0, .int .i64 0] 25), (w.heap.size + 1 + 1 + 1, .cells #[.int .i64 (k : Int)] 3), (g, .cells (opC (.slice va s.wicks.length vc) (.slice xa s.waxes.length xc) s c (waxOf s c)) 104), (w2.heap.size, .cells (burnC (leastB s c k)) 66), (w2.heap.size + 1, .cells (burnC (mostB s c k)) 66)] w9) := hC9; clear hC9 C8))
        exact bodyPost_ret (results_row_tmp (fn := Tryz.f9) rfl _ _ _ _ _ _ _ rfl rfl (HT3.out.get 2 rfl) Tryz.underlying25 rfl infoSpan) rfl ⟨by rw [HBE.out, HBV.out]; rfl, HT3.out.bel⟩
end Go.Proofs.YtpkggjobdmchlaaGreatDoor
