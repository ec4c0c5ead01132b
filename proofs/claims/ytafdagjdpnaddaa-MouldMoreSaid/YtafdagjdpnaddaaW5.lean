/- stearinref05.Next. -/
import Derived.Test.YtafdagjdpnaddaaAp
import Derived.Test.YtafdagjdpnaddaaW4
namespace Go.Proofs.Ytafdagjdpnaddaa
open Go.RowKit
theorem nextL_take (g wall : Int) (l : List Int) (k : Nat) (h : k < l.length) : (nextL g wall l).take (k + 1) = (nextL g wall l).take k ++ [ringA g wall l k] := by
  rw [List.take_succ_eq_append_getElem (by rw [nextL_length]; exact h)]
  congr 2
  simp [nextL]
theorem ringN_ref {g x y z : Int} (g0 : 0 ≤ g) (g5 : g ≤ 500) (hx : 0 ≤ x ∧ x ≤ 2000) (hy : 0 ≤ y ∧ y ≤ 2000) (hz : 0 ≤ z ∧ z ≤ 2000) :
    (0 ≤ g * x ∧ g * x ≤ 1000000) ∧ (0 ≤ g * y ∧ g * y ≤ 1000000) ∧ (0 ≤ (1000 - 2 * g) * z ∧ (1000 - 2 * g) * z ≤ 2000000) := by
  have h1 := Int.mul_le_mul g5 hx.2 hx.1 (by omega)
  have h2 := Int.mul_le_mul g5 hy.2 hy.1 (by omega)
  have h3 := Int.mul_le_mul (show 1000 - 2 * g ≤ 1000 by omega) hz.2 hz.1 (by omega)
  have h4 := Int.mul_nonneg g0 hx.1
  have h5 := Int.mul_nonneg g0 hy.1
  have h6 := Int.mul_nonneg (show 0 ≤ 1000 - 2 * g by omega) hz.1
  omega
set_option maxRecDepth 100000 in
set_option maxHeartbeats 4000000 in
theorem nextR_any (m : Mou) (g1 : 1 ≤ m.give) (g5 : m.give ≤ 500) (l : List Int) (h8 : l.length ≤ 8) (hb : Fits2 0 2000 l) (wall : Int) (hw : 0 ≤ wall ∧ wall ≤ 2000) (v : Value) (w : World) (hv : IntsIn .i64 w.heap.size w v l) :
    Calls Try.prog 54 #[.agg #[.int .i64 m.rings, .int .i64 m.give, .int .i64 m.pl, .int .i64 m.ph, .int .i64 m.wl, .int .i64 m.wh, .int .i64 m.set, .int .i64 m.shrink, .int .i64 m.skin, .int .i64 m.fill, .int .i64 m.gap, .int .i64 m.deep], v, .int .i64 wall] w (RetL (nextL m.give wall l) w) := by
  have HV := Lib.hid hv
  obtain ⟨a, c, rfl, -, -⟩ := hv
  have HB := Lib.hid hb
  obtain ⟨w0, w2⟩ := hw
  clear hb
  obtain ⟨n, hn⟩ : ∃ n, l.length = n := ⟨_, rfl⟩
  have HN := Lib.hid hn
  rw [hn] at h8 HV ⊢
  clear hn
  have C0 := Lib.hid ((Bs.nil w).push _ rfl (.cells #[.int .i64 m.rings, .int .i64 m.give, .int .i64 m.pl, .int .i64 m.ph, .int .i64 m.wl, .int .i64 m.wh, .int .i64 m.set, .int .i64 m.shrink, .int .i64 m.skin, .int .i64 m.fill, .int .i64 m.gap, .int .i64 m.deep] 25))
  go_enter Try.func54, Try.ntmps54
  go_wp2
  go_loopw [7, 8] (fun lv kv wr => ∃ k : Nat, k ≤ n ∧ kv = .int .i64 k ∧ wr.ownsRow (w.heap.size + 1) 3 1 lv k (((nextL m.give wall l).take k).map (Value.int .i64)) ∧ Bs w ([] ++ [(w.heap.size, .cells #[.int .i64 m.rings, .int .i64 m.give, .int .i64 m.pl, .int .i64 m.ph, .int .i64 m.wl, .int .i64 m.wh, .int .i64 m.set, .int .i64 m.shrink, .int .i64 m.skin, .int .i64 m.fill, .int .i64 m.gap, .int .i64 m.deep] 25)]) wr)
    (fun _ i _ => n - (intOf i).toNat)
  case atStart => exact ⟨0, by omega, rfl, World.ownsRow_nil _ _ _ _, C0.out⟩
  case round =>
    obtain ⟨k, hk, rfl, ho, hC⟩ := hrel
    have C3 := Lib.hid hC
    have HO := Lib.hid ho
    clear ho
    have c0 := hC.cell 0 rfl
    by_cases hlt : k < n
    · obtain ⟨o, ho⟩ : ∃ o, l.getD k 0 = o := ⟨_, rfl⟩
      obtain ⟨bv, hbv⟩ : ∃ x, beforeA wall l k = x := ⟨_, rfl⟩
      obtain ⟨cv, hcv⟩ : ∃ x, behindA l k = x := ⟨_, rfl⟩
      have HRA : Hid (ringA m.give wall l k = (m.give * bv + m.give * cv + (1000 - 2 * m.give) * o) / 1000) := by unfold Hid ringA ringN; rw [hbv, hcv, ho]
      have hll : k < l.length := by rw [HN.out]; exact hlt
      obtain ⟨a', c', hva, -, hc⟩ := HV.out.below C3.out.bel
      simp only [Value.slice.injEq] at hva
      obtain ⟨rfl, -, rfl⟩ := hva
      obtain ⟨b, off, rfl, hbb, hcc⟩ := hc.resolve_left (by intro h; rw [h] at hll; simp at hll)
      have ck : wr.cell? ⟨b, off + k, none⟩ = some (.int .i64 o) := by rw [hcc k hll, ho]
      have ho2 := HB.out k hll
      have hbv2 := beforeA_bound HB.out ⟨w0, w2⟩ hll
      have hcv2 := behindA_bound HB.out hll
      rw [ho] at ho2
      rw [hbv] at hbv2
      rw [hcv] at hcv2
      obtain ⟨⟨q1, q2⟩, ⟨q3, q4⟩, ⟨q5, q6⟩⟩ := ringN_ref (show 0 ≤ m.give by omega) g5 hbv2 hcv2 ho2
      obtain ⟨ho3, ho4⟩ := ho2
      obtain ⟨hbv3, hbv4⟩ := hbv2
      obtain ⟨hcv3, hcv4⟩ := hcv2
      unfold beforeA at hbv
      unfold behindA at hcv
      rw [ho] at hcv
      rw [HN.out] at hcv
      have HLT := Lib.hid hlt
      have HLL := Lib.hid hll
      have hk8 : (k : Int) < 8 := by omega
      have hki : (k : Int) < (n : Int) := by omega
      have hdk : decide ((k : Int) < (n : Int)) = true := decide_eq_true (by omega)
      have hdk' : decide (k < n) = true := decide_eq_true (by omega)
      clear ho hk hc
      by_cases hk0 : k = 0
      · have hd0 : decide ((0 : Int) < (k : Int)) = false := decide_eq_false (by omega)
        have hd0' : decide (0 < k) = false := decide_eq_false (by omega)
        rw [if_pos hk0] at hbv
        subst hbv
        by_cases hr : k + 1 < n
        · have hki1 : (k : Int) + 1 < (n : Int) := by omega
          have hki2 : (0 : Int) ≤ (k : Int) + 1 := by omega
          have hd1 : decide ((k : Int) + 1 < (n : Int)) = true := decide_eq_true (by omega)
          have hd1' : decide (k + 1 < n) = true := decide_eq_true (by omega)
          rw [if_pos hr] at hcv
          have ck1 : wr.cell? ⟨b, off + (k + 1), none⟩ = some (.int .i64 cv) := by rw [hcc (k + 1) (by rw [HN.out]; exact hr), hcv]
          clear hC hcv hk0 hlt hr hcc hll
          go_wp2
          go_quiet (fail)
          generalize hW2 : World.drewN wr _ = wr2
          have C4 : Hid (Bs w ([] ++ [(w.heap.size, .cells #[.int .i64 m.rings, .int .i64 m.give, .int .i64 m.pl, .int .i64 m.ph, .int .i64 m.wl, .int .i64 m.wh, .int .i64 m.set, .int .i64 m.shrink, .int .i64 m.skin, .int .i64 m.fill, .int .i64 m.gap, .int .i64 m.deep] 25)]) wr2) := by rw [← hW2]; exact C3.out.drewN _
          have HO4 : Hid (wr2.ownsRow (w.heap.size + 1) 3 1 u7 k (((nextL m.give wall l).take k).map (Value.int .i64))) := by rw [← hW2]; exact ownsRow.below HO.out (below_drewN (Below.refl _ _) _)
          have ck4 : wr2.cell? ⟨b, off + k, none⟩ = some (.int .i64 o) := by rw [← hW2]; exact ck
          have ck14 : wr2.cell? ⟨b, off + (k + 1), none⟩ = some (.int .i64 cv) := by rw [← hW2]; exact ck1
          clear ck1
          clear hW2 C3 HO c0 ck
          have c0 := C4.out.cell 0 rfl
          have hbw : w.heap.size < wr2.heap.size := C4.out.lt 0 rfl
          go_wp2
          refine wp_region_inv1 (by kernel_rfl) (by kernel_rfl) [61, 7] (fun D y w' => AppW wr2 (w.heap.size + 1) 3 1 (u7) (k) (((nextL m.give wall l).take k).map (Value.int .i64)) [.int .i64 ((m.give * wall + m.give * cv + (1000 - 2 * m.give) * o) / 1000)] (D 21) (D 22) (D 23) (y 7) (y 61) w') ?_ ?F1 ?hF1 ?_
          · exact AppW.start HO4.out hbw
          case hF1 =>
            intro y
            simp only [fill, List.foldl, Act.put, List.setIfInBounds_toArray, List.set]
            exact rfl
          apply obl_det
          case hrun =>
            intro D y wz hW hD R hR
            have HRR := Lib.hid hR
            clear hR
            have h15 : D 23 = false := hD.post _ 23 rfl (by kernel_rfl)
            refine wpList_mv rfl _ rfl (u7) (hW.old h15) ?_
            have HW := Lib.hid hW
            clear hW hD
            go_wp2
            exact HRR.out _ HW.out
          case hnp => rfl
          case hv => first | exact ⟨_, fun _ => rfl⟩ | exact ⟨undef, fun _ => rfl⟩
          iterate 20
            (apply obl_det
             case hrun =>
               intro D y wz hW hD R hR
               have HRR := Lib.hid hR
               clear hR
               have HW := Lib.hid hW
               have hc2 := (cellB hW.bel).1
               clear hW hD
               go_wp2
               exact HRR.out _ HW.out
             case hnp => rfl
             case hv => first | exact ⟨_, fun _ => rfl⟩ | exact ⟨undef, fun _ => rfl⟩)
          apply obl_det
          case hrun =>
            intro D y wz hW hD R hR
            have HRR := Lib.hid hR
            clear hR
            have h13 : D 21 = false := hD.not
            have h14 : D 22 = false := hD.post _ 22 rfl (by kernel_rfl)
            rw [h13, h14] at hW
            obtain ⟨hsz, hW2⟩ := hW.laid
            have HS := Lib.hid hsz
            have HW := Lib.hid hW2
            have H14 := Lib.hid h14
            clear hW hW2 hD hsz h13 h14
            go_wp2
            rw [HS.out]
            refine HRR.out _ ?_
            show AppW wr2 (w.heap.size + 1) 3 1 (u7) (k) (((nextL m.give wall l).take k).map (Value.int .i64)) [.int .i64 ((m.give * wall + m.give * cv + (1000 - 2 * m.give) * o) / 1000)] true (D 22) (D 23) (y 7) (y 61) _
            rw [H14.out]
            exact HW.out
          case hnp => rfl
          case hv => first | exact ⟨_, fun _ => rfl⟩ | exact ⟨undef, fun _ => rfl⟩
          apply obl_priv 61
          case hd => rfl
          case hp => rfl
          case hrun =>
            intro D y wz hW hD R hR
            have HRR := Lib.hid hR
            clear hR
            have h14 : D 22 = false := hD.not
            have h13 : D 21 = true := hD.pre _ 21 rfl (by kernel_rfl)
            have h15 : D 23 = false := hD.post _ 23 rfl (by kernel_rfl)
            rw [h13, h14] at hW
            have HW := Lib.hid hW
            obtain ⟨ho, -, hb⟩ := hW.row rfl
            have hbase := hW.hb
            have hsz := hW.bel.size
            clear hW hD
            obtain ⟨i0, hi0, hz0, hz1, hz2⟩ := info3'
            refine wpList_append_own _ rfl _ _ 26 rfl (w.heap.size + 1) 3 i0 (.int .i64 0) 1 8 Try.underlying26 hi0 hz0 hz1 hz2 rfl (by decide) _ _ _ rfl ho ⟨wr2.heap.size, 0, none⟩ 1 1 [.int .i64 ((m.give * wall + m.give * cv + (1000 - 2 * m.give) * o) / 1000)] rfl rfl (cell_news _ _ _ _ (hb rfl)) (one_int _) (by unfold maxLen; omega) (by omega) (by omega) ?_
            intro v' w12 hown12 hgrow12 _
            have HW2 := Lib.hid (HW.out.got h15 hown12 hgrow12)
            go_wp2
            refine HRR.out v' _ ?_
            show AppW wr2 (w.heap.size + 1) 3 1 (u7) (k) (((nextL m.give wall l).take k).map (Value.int .i64)) [.int .i64 ((m.give * wall + m.give * cv + (1000 - 2 * m.give) * o) / 1000)] (D 21) true (D 23) (y 7) v' _
            rw [h13]
            exact HW2.out
          apply obl_priv 7
          case hd => rfl
          case hp => rfl
          case hrun =>
            intro D y wz hW hD R hR
            have HRR := Lib.hid hR
            clear hR
            have h14 : D 22 = true := hD.pre _ 22 rfl (by kernel_rfl)
            have HW := Lib.hid hW
            have H14 := Lib.hid h14
            clear hW hD h14
            go_wp2
            refine HRR.out _ _ ?_
            show AppW wr2 (w.heap.size + 1) 3 1 (u7) (k) (((nextL m.give wall l).take k).map (Value.int .i64)) [.int .i64 ((m.give * wall + m.give * cv + (1000 - 2 * m.give) * o) / 1000)] (D 21) (D 22) true (y 61) (y 61) _
            have h := HW.out
            rw [H14.out] at h ⊢
            exact h.assigned
          apply obl_nil
          intro D y w8 hall hW
          have h14 := hall 22 (by decide)
          have h15 := hall 23 (by decide)
          rw [h14, h15] at hW
          have hy := hW.put rfl
          have HO8 := Lib.hid (hW.new rfl)
          have C8 := Lib.hid hW.bel
          clear hW hall h14 h15
          rw [hy]
          clear hy
          generalize y 61 = yv at HO8 ⊢
          have HO9 : Hid (w8.ownsRow (w.heap.size + 1) 3 1 yv (k + 1) (((nextL m.give wall l).take (k + 1)).map (Value.int .i64))) := by
            unfold Hid
            rw [nextL_take _ _ _ _ HLL.out, List.map_append, HRA.out]
            exact HO8.out
          have C9 := Lib.hid (C4.out.app C8.out (fun p hp => by simp at hp; subst hp; exact Nat.lt_succ_self _) (Nat.le_succ _))
          clear HO8 C8 C4 HO4 c0 ck4 D y
          go_wp2
          go_roundw
          case rel => exact ⟨k + 1, HLT.out, by go_num, HO9.out, C9.out⟩
          case measure => have := HLT.out; simp [intOf]; omega
        · have hd1 : decide ((k : Int) + 1 < (n : Int)) = false := decide_eq_false (by omega)
          have hd1' : decide (k + 1 < n) = false := decide_eq_false (by omega)
          rw [if_neg hr] at hcv
          subst hcv
          clear hC hk0 hlt hr hcc hll
          go_wp2
          go_quiet (fail)
          generalize hW2 : World.drewN wr _ = wr2
          have C4 : Hid (Bs w ([] ++ [(w.heap.size, .cells #[.int .i64 m.rings, .int .i64 m.give, .int .i64 m.pl, .int .i64 m.ph, .int .i64 m.wl, .int .i64 m.wh, .int .i64 m.set, .int .i64 m.shrink, .int .i64 m.skin, .int .i64 m.fill, .int .i64 m.gap, .int .i64 m.deep] 25)]) wr2) := by rw [← hW2]; exact C3.out.drewN _
          have HO4 : Hid (wr2.ownsRow (w.heap.size + 1) 3 1 u7 k (((nextL m.give wall l).take k).map (Value.int .i64))) := by rw [← hW2]; exact ownsRow.below HO.out (below_drewN (Below.refl _ _) _)
          have ck4 : wr2.cell? ⟨b, off + k, none⟩ = some (.int .i64 o) := by rw [← hW2]; exact ck
          clear hW2 C3 HO c0 ck
          have c0 := C4.out.cell 0 rfl
          have hbw : w.heap.size < wr2.heap.size := C4.out.lt 0 rfl
          go_wp2
          refine wp_region_inv1 (by kernel_rfl) (by kernel_rfl) [61, 7] (fun D y w' => AppW wr2 (w.heap.size + 1) 3 1 (u7) (k) (((nextL m.give wall l).take k).map (Value.int .i64)) [.int .i64 ((m.give * wall + m.give * o + (1000 - 2 * m.give) * o) / 1000)] (D 21) (D 22) (D 23) (y 7) (y 61) w') ?_ ?F2 ?hF2 ?_
          · exact AppW.start HO4.out hbw
          case hF2 =>
            intro y
            simp only [fill, List.foldl, Act.put, List.setIfInBounds_toArray, List.set]
            exact rfl
          apply obl_det
          case hrun =>
            intro D y wz hW hD R hR
            have HRR := Lib.hid hR
            clear hR
            have h15 : D 23 = false := hD.post _ 23 rfl (by kernel_rfl)
            refine wpList_mv rfl _ rfl (u7) (hW.old h15) ?_
            have HW := Lib.hid hW
            clear hW hD
            go_wp2
            exact HRR.out _ HW.out
          case hnp => rfl
          case hv => first | exact ⟨_, fun _ => rfl⟩ | exact ⟨undef, fun _ => rfl⟩
          iterate 20
            (apply obl_det
             case hrun =>
               intro D y wz hW hD R hR
               have HRR := Lib.hid hR
               clear hR
               have HW := Lib.hid hW
               have hc2 := (cellB hW.bel).1
               clear hW hD
               go_wp2
               exact HRR.out _ HW.out
             case hnp => rfl
             case hv => first | exact ⟨_, fun _ => rfl⟩ | exact ⟨undef, fun _ => rfl⟩)
          apply obl_det
          case hrun =>
            intro D y wz hW hD R hR
            have HRR := Lib.hid hR
            clear hR
            have h13 : D 21 = false := hD.not
            have h14 : D 22 = false := hD.post _ 22 rfl (by kernel_rfl)
            rw [h13, h14] at hW
            obtain ⟨hsz, hW2⟩ := hW.laid
            have HS := Lib.hid hsz
            have HW := Lib.hid hW2
            have H14 := Lib.hid h14
            clear hW hW2 hD hsz h13 h14
            go_wp2
            rw [HS.out]
            refine HRR.out _ ?_
            show AppW wr2 (w.heap.size + 1) 3 1 (u7) (k) (((nextL m.give wall l).take k).map (Value.int .i64)) [.int .i64 ((m.give * wall + m.give * o + (1000 - 2 * m.give) * o) / 1000)] true (D 22) (D 23) (y 7) (y 61) _
            rw [H14.out]
            exact HW.out
          case hnp => rfl
          case hv => first | exact ⟨_, fun _ => rfl⟩ | exact ⟨undef, fun _ => rfl⟩
          apply obl_priv 61
          case hd => rfl
          case hp => rfl
          case hrun =>
            intro D y wz hW hD R hR
            have HRR := Lib.hid hR
            clear hR
            have h14 : D 22 = false := hD.not
            have h13 : D 21 = true := hD.pre _ 21 rfl (by kernel_rfl)
            have h15 : D 23 = false := hD.post _ 23 rfl (by kernel_rfl)
            rw [h13, h14] at hW
            have HW := Lib.hid hW
            obtain ⟨ho, -, hb⟩ := hW.row rfl
            have hbase := hW.hb
            have hsz := hW.bel.size
            clear hW hD
            obtain ⟨i0, hi0, hz0, hz1, hz2⟩ := info3'
            refine wpList_append_own _ rfl _ _ 26 rfl (w.heap.size + 1) 3 i0 (.int .i64 0) 1 8 Try.underlying26 hi0 hz0 hz1 hz2 rfl (by decide) _ _ _ rfl ho ⟨wr2.heap.size, 0, none⟩ 1 1 [.int .i64 ((m.give * wall + m.give * o + (1000 - 2 * m.give) * o) / 1000)] rfl rfl (cell_news _ _ _ _ (hb rfl)) (one_int _) (by unfold maxLen; omega) (by omega) (by omega) ?_
            intro v' w12 hown12 hgrow12 _
            have HW2 := Lib.hid (HW.out.got h15 hown12 hgrow12)
            go_wp2
            refine HRR.out v' _ ?_
            show AppW wr2 (w.heap.size + 1) 3 1 (u7) (k) (((nextL m.give wall l).take k).map (Value.int .i64)) [.int .i64 ((m.give * wall + m.give * o + (1000 - 2 * m.give) * o) / 1000)] (D 21) true (D 23) (y 7) v' _
            rw [h13]
            exact HW2.out
          apply obl_priv 7
          case hd => rfl
          case hp => rfl
          case hrun =>
            intro D y wz hW hD R hR
            have HRR := Lib.hid hR
            clear hR
            have h14 : D 22 = true := hD.pre _ 22 rfl (by kernel_rfl)
            have HW := Lib.hid hW
            have H14 := Lib.hid h14
            clear hW hD h14
            go_wp2
            refine HRR.out _ _ ?_
            show AppW wr2 (w.heap.size + 1) 3 1 (u7) (k) (((nextL m.give wall l).take k).map (Value.int .i64)) [.int .i64 ((m.give * wall + m.give * o + (1000 - 2 * m.give) * o) / 1000)] (D 21) (D 22) true (y 61) (y 61) _
            have h := HW.out
            rw [H14.out] at h ⊢
            exact h.assigned
          apply obl_nil
          intro D y w8 hall hW
          have h14 := hall 22 (by decide)
          have h15 := hall 23 (by decide)
          rw [h14, h15] at hW
          have hy := hW.put rfl
          have HO8 := Lib.hid (hW.new rfl)
          have C8 := Lib.hid hW.bel
          clear hW hall h14 h15
          rw [hy]
          clear hy
          generalize y 61 = yv at HO8 ⊢
          have HO9 : Hid (w8.ownsRow (w.heap.size + 1) 3 1 yv (k + 1) (((nextL m.give wall l).take (k + 1)).map (Value.int .i64))) := by
            unfold Hid
            rw [nextL_take _ _ _ _ HLL.out, List.map_append, HRA.out]
            exact HO8.out
          have C9 := Lib.hid (C4.out.app C8.out (fun p hp => by simp at hp; subst hp; exact Nat.lt_succ_self _) (Nat.le_succ _))
          clear HO8 C8 C4 HO4 c0 ck4 D y
          go_wp2
          go_roundw
          case rel => exact ⟨k + 1, HLT.out, by go_num, HO9.out, C9.out⟩
          case measure => have := HLT.out; simp [intOf]; omega
      · have hd0 : decide ((0 : Int) < (k : Int)) = true := decide_eq_true (by omega)
        have hd0' : decide (0 < k) = true := decide_eq_true (by omega)
        rw [if_neg hk0] at hbv
        obtain ⟨j, hj⟩ : ∃ j : Nat, j + 1 = k := ⟨k - 1, by omega⟩
        have hjk : (k : Int) - 1 = (j : Int) := by omega
        have hjn : (j : Int) < (n : Int) := by omega
        have ckj : wr.cell? ⟨b, off + j, none⟩ = some (.int .i64 bv) := by rw [hcc j (by omega), show j = k - 1 by omega, hbv]
        by_cases hr : k + 1 < n
        · have hki1 : (k : Int) + 1 < (n : Int) := by omega
          have hki2 : (0 : Int) ≤ (k : Int) + 1 := by omega
          have hd1 : decide ((k : Int) + 1 < (n : Int)) = true := decide_eq_true (by omega)
          have hd1' : decide (k + 1 < n) = true := decide_eq_true (by omega)
          rw [if_pos hr] at hcv
          have ck1 : wr.cell? ⟨b, off + (k + 1), none⟩ = some (.int .i64 cv) := by rw [hcc (k + 1) (by rw [HN.out]; exact hr), hcv]
          clear hC hcv hbv hk0 hlt hr hj hcc hll
          go_wp2
          go_quiet (fail)
          generalize hW2 : World.drewN wr _ = wr2
          have C4 : Hid (Bs w ([] ++ [(w.heap.size, .cells #[.int .i64 m.rings, .int .i64 m.give, .int .i64 m.pl, .int .i64 m.ph, .int .i64 m.wl, .int .i64 m.wh, .int .i64 m.set, .int .i64 m.shrink, .int .i64 m.skin, .int .i64 m.fill, .int .i64 m.gap, .int .i64 m.deep] 25)]) wr2) := by rw [← hW2]; exact C3.out.drewN _
          have HO4 : Hid (wr2.ownsRow (w.heap.size + 1) 3 1 u7 k (((nextL m.give wall l).take k).map (Value.int .i64))) := by rw [← hW2]; exact ownsRow.below HO.out (below_drewN (Below.refl _ _) _)
          have ck4 : wr2.cell? ⟨b, off + k, none⟩ = some (.int .i64 o) := by rw [← hW2]; exact ck
          have ck14 : wr2.cell? ⟨b, off + (k + 1), none⟩ = some (.int .i64 cv) := by rw [← hW2]; exact ck1
          have ckj4 : wr2.cell? ⟨b, off + j, none⟩ = some (.int .i64 bv) := by rw [← hW2]; exact ckj
          clear ck1 ckj
          clear hW2 C3 HO c0 ck
          have c0 := C4.out.cell 0 rfl
          have hbw : w.heap.size < wr2.heap.size := C4.out.lt 0 rfl
          go_wp2
          refine wp_region_inv1 (by kernel_rfl) (by kernel_rfl) [61, 7] (fun D y w' => AppW wr2 (w.heap.size + 1) 3 1 (u7) (k) (((nextL m.give wall l).take k).map (Value.int .i64)) [.int .i64 ((m.give * bv + m.give * cv + (1000 - 2 * m.give) * o) / 1000)] (D 21) (D 22) (D 23) (y 7) (y 61) w') ?_ ?F3 ?hF3 ?_
          · exact AppW.start HO4.out hbw
          case hF3 =>
            intro y
            simp only [fill, List.foldl, Act.put, List.setIfInBounds_toArray, List.set]
            exact rfl
          apply obl_det
          case hrun =>
            intro D y wz hW hD R hR
            have HRR := Lib.hid hR
            clear hR
            have h15 : D 23 = false := hD.post _ 23 rfl (by kernel_rfl)
            refine wpList_mv rfl _ rfl (u7) (hW.old h15) ?_
            have HW := Lib.hid hW
            clear hW hD
            go_wp2
            exact HRR.out _ HW.out
          case hnp => rfl
          case hv => first | exact ⟨_, fun _ => rfl⟩ | exact ⟨undef, fun _ => rfl⟩
          iterate 20
            (apply obl_det
             case hrun =>
               intro D y wz hW hD R hR
               have HRR := Lib.hid hR
               clear hR
               have HW := Lib.hid hW
               have hc2 := (cellB hW.bel).1
               clear hW hD
               go_wp2
               exact HRR.out _ HW.out
             case hnp => rfl
             case hv => first | exact ⟨_, fun _ => rfl⟩ | exact ⟨undef, fun _ => rfl⟩)
          apply obl_det
          case hrun =>
            intro D y wz hW hD R hR
            have HRR := Lib.hid hR
            clear hR
            have h13 : D 21 = false := hD.not
            have h14 : D 22 = false := hD.post _ 22 rfl (by kernel_rfl)
            rw [h13, h14] at hW
            obtain ⟨hsz, hW2⟩ := hW.laid
            have HS := Lib.hid hsz
            have HW := Lib.hid hW2
            have H14 := Lib.hid h14
            clear hW hW2 hD hsz h13 h14
            go_wp2
            rw [HS.out]
            refine HRR.out _ ?_
            show AppW wr2 (w.heap.size + 1) 3 1 (u7) (k) (((nextL m.give wall l).take k).map (Value.int .i64)) [.int .i64 ((m.give * bv + m.give * cv + (1000 - 2 * m.give) * o) / 1000)] true (D 22) (D 23) (y 7) (y 61) _
            rw [H14.out]
            exact HW.out
          case hnp => rfl
          case hv => first | exact ⟨_, fun _ => rfl⟩ | exact ⟨undef, fun _ => rfl⟩
          apply obl_priv 61
          case hd => rfl
          case hp => rfl
          case hrun =>
            intro D y wz hW hD R hR
            have HRR := Lib.hid hR
            clear hR
            have h14 : D 22 = false := hD.not
            have h13 : D 21 = true := hD.pre _ 21 rfl (by kernel_rfl)
            have h15 : D 23 = false := hD.post _ 23 rfl (by kernel_rfl)
            rw [h13, h14] at hW
            have HW := Lib.hid hW
            obtain ⟨ho, -, hb⟩ := hW.row rfl
            have hbase := hW.hb
            have hsz := hW.bel.size
            clear hW hD
            obtain ⟨i0, hi0, hz0, hz1, hz2⟩ := info3'
            refine wpList_append_own _ rfl _ _ 26 rfl (w.heap.size + 1) 3 i0 (.int .i64 0) 1 8 Try.underlying26 hi0 hz0 hz1 hz2 rfl (by decide) _ _ _ rfl ho ⟨wr2.heap.size, 0, none⟩ 1 1 [.int .i64 ((m.give * bv + m.give * cv + (1000 - 2 * m.give) * o) / 1000)] rfl rfl (cell_news _ _ _ _ (hb rfl)) (one_int _) (by unfold maxLen; omega) (by omega) (by omega) ?_
            intro v' w12 hown12 hgrow12 _
            have HW2 := Lib.hid (HW.out.got h15 hown12 hgrow12)
            go_wp2
            refine HRR.out v' _ ?_
            show AppW wr2 (w.heap.size + 1) 3 1 (u7) (k) (((nextL m.give wall l).take k).map (Value.int .i64)) [.int .i64 ((m.give * bv + m.give * cv + (1000 - 2 * m.give) * o) / 1000)] (D 21) true (D 23) (y 7) v' _
            rw [h13]
            exact HW2.out
          apply obl_priv 7
          case hd => rfl
          case hp => rfl
          case hrun =>
            intro D y wz hW hD R hR
            have HRR := Lib.hid hR
            clear hR
            have h14 : D 22 = true := hD.pre _ 22 rfl (by kernel_rfl)
            have HW := Lib.hid hW
            have H14 := Lib.hid h14
            clear hW hD h14
            go_wp2
            refine HRR.out _ _ ?_
            show AppW wr2 (w.heap.size + 1) 3 1 (u7) (k) (((nextL m.give wall l).take k).map (Value.int .i64)) [.int .i64 ((m.give * bv + m.give * cv + (1000 - 2 * m.give) * o) / 1000)] (D 21) (D 22) true (y 61) (y 61) _
            have h := HW.out
            rw [H14.out] at h ⊢
            exact h.assigned
          apply obl_nil
          intro D y w8 hall hW
          have h14 := hall 22 (by decide)
          have h15 := hall 23 (by decide)
          rw [h14, h15] at hW
          have hy := hW.put rfl
          have HO8 := Lib.hid (hW.new rfl)
          have C8 := Lib.hid hW.bel
          clear hW hall h14 h15
          rw [hy]
          clear hy
          generalize y 61 = yv at HO8 ⊢
          have HO9 : Hid (w8.ownsRow (w.heap.size + 1) 3 1 yv (k + 1) (((nextL m.give wall l).take (k + 1)).map (Value.int .i64))) := by
            unfold Hid
            rw [nextL_take _ _ _ _ HLL.out, List.map_append, HRA.out]
            exact HO8.out
          have C9 := Lib.hid (C4.out.app C8.out (fun p hp => by simp at hp; subst hp; exact Nat.lt_succ_self _) (Nat.le_succ _))
          clear HO8 C8 C4 HO4 c0 ck4 D y
          go_wp2
          go_roundw
          case rel => exact ⟨k + 1, HLT.out, by go_num, HO9.out, C9.out⟩
          case measure => have := HLT.out; simp [intOf]; omega
        · have hd1 : decide ((k : Int) + 1 < (n : Int)) = false := decide_eq_false (by omega)
          have hd1' : decide (k + 1 < n) = false := decide_eq_false (by omega)
          rw [if_neg hr] at hcv
          subst hcv
          clear hC hbv hk0 hlt hr hj hcc hll
          go_wp2
          go_quiet (fail)
          generalize hW2 : World.drewN wr _ = wr2
          have C4 : Hid (Bs w ([] ++ [(w.heap.size, .cells #[.int .i64 m.rings, .int .i64 m.give, .int .i64 m.pl, .int .i64 m.ph, .int .i64 m.wl, .int .i64 m.wh, .int .i64 m.set, .int .i64 m.shrink, .int .i64 m.skin, .int .i64 m.fill, .int .i64 m.gap, .int .i64 m.deep] 25)]) wr2) := by rw [← hW2]; exact C3.out.drewN _
          have HO4 : Hid (wr2.ownsRow (w.heap.size + 1) 3 1 u7 k (((nextL m.give wall l).take k).map (Value.int .i64))) := by rw [← hW2]; exact ownsRow.below HO.out (below_drewN (Below.refl _ _) _)
          have ck4 : wr2.cell? ⟨b, off + k, none⟩ = some (.int .i64 o) := by rw [← hW2]; exact ck
          have ckj4 : wr2.cell? ⟨b, off + j, none⟩ = some (.int .i64 bv) := by rw [← hW2]; exact ckj
          clear ckj
          clear hW2 C3 HO c0 ck
          have c0 := C4.out.cell 0 rfl
          have hbw : w.heap.size < wr2.heap.size := C4.out.lt 0 rfl
          go_wp2
          refine wp_region_inv1 (by kernel_rfl) (by kernel_rfl) [61, 7] (fun D y w' => AppW wr2 (w.heap.size + 1) 3 1 (u7) (k) (((nextL m.give wall l).take k).map (Value.int .i64)) [.int .i64 ((m.give * bv + m.give * o + (1000 - 2 * m.give) * o) / 1000)] (D 21) (D 22) (D 23) (y 7) (y 61) w') ?_ ?F4 ?hF4 ?_
          · exact AppW.start HO4.out hbw
          case hF4 =>
            intro y
            simp only [fill, List.foldl, Act.put, List.setIfInBounds_toArray, List.set]
            exact rfl
          apply obl_det
          case hrun =>
            intro D y wz hW hD R hR
            have HRR := Lib.hid hR
            clear hR
            have h15 : D 23 = false := hD.post _ 23 rfl (by kernel_rfl)
            refine wpList_mv rfl _ rfl (u7) (hW.old h15) ?_
            have HW := Lib.hid hW
            clear hW hD
            go_wp2
            exact HRR.out _ HW.out
          case hnp => rfl
          case hv => first | exact ⟨_, fun _ => rfl⟩ | exact ⟨undef, fun _ => rfl⟩
          iterate 20
            (apply obl_det
             case hrun =>
               intro D y wz hW hD R hR
               have HRR := Lib.hid hR
               clear hR
               have HW := Lib.hid hW
               have hc2 := (cellB hW.bel).1
               clear hW hD
               go_wp2
               exact HRR.out _ HW.out
             case hnp => rfl
             case hv => first | exact ⟨_, fun _ => rfl⟩ | exact ⟨undef, fun _ => rfl⟩)
          apply obl_det
          case hrun =>
            intro D y wz hW hD R hR
            have HRR := Lib.hid hR
            clear hR
            have h13 : D 21 = false := hD.not
            have h14 : D 22 = false := hD.post _ 22 rfl (by kernel_rfl)
            rw [h13, h14] at hW
            obtain ⟨hsz, hW2⟩ := hW.laid
            have HS := Lib.hid hsz
            have HW := Lib.hid hW2
            have H14 := Lib.hid h14
            clear hW hW2 hD hsz h13 h14
            go_wp2
            rw [HS.out]
            refine HRR.out _ ?_
            show AppW wr2 (w.heap.size + 1) 3 1 (u7) (k) (((nextL m.give wall l).take k).map (Value.int .i64)) [.int .i64 ((m.give * bv + m.give * o + (1000 - 2 * m.give) * o) / 1000)] true (D 22) (D 23) (y 7) (y 61) _
            rw [H14.out]
            exact HW.out
          case hnp => rfl
          case hv => first | exact ⟨_, fun _ => rfl⟩ | exact ⟨undef, fun _ => rfl⟩
          apply obl_priv 61
          case hd => rfl
          case hp => rfl
          case hrun =>
            intro D y wz hW hD R hR
            have HRR := Lib.hid hR
            clear hR
            have h14 : D 22 = false := hD.not
            have h13 : D 21 = true := hD.pre _ 21 rfl (by kernel_rfl)
            have h15 : D 23 = false := hD.post _ 23 rfl (by kernel_rfl)
            rw [h13, h14] at hW
            have HW := Lib.hid hW
            obtain ⟨ho, -, hb⟩ := hW.row rfl
            have hbase := hW.hb
            have hsz := hW.bel.size
            clear hW hD
            obtain ⟨i0, hi0, hz0, hz1, hz2⟩ := info3'
            refine wpList_append_own _ rfl _ _ 26 rfl (w.heap.size + 1) 3 i0 (.int .i64 0) 1 8 Try.underlying26 hi0 hz0 hz1 hz2 rfl (by decide) _ _ _ rfl ho ⟨wr2.heap.size, 0, none⟩ 1 1 [.int .i64 ((m.give * bv + m.give * o + (1000 - 2 * m.give) * o) / 1000)] rfl rfl (cell_news _ _ _ _ (hb rfl)) (one_int _) (by unfold maxLen; omega) (by omega) (by omega) ?_
            intro v' w12 hown12 hgrow12 _
            have HW2 := Lib.hid (HW.out.got h15 hown12 hgrow12)
            go_wp2
            refine HRR.out v' _ ?_
            show AppW wr2 (w.heap.size + 1) 3 1 (u7) (k) (((nextL m.give wall l).take k).map (Value.int .i64)) [.int .i64 ((m.give * bv + m.give * o + (1000 - 2 * m.give) * o) / 1000)] (D 21) true (D 23) (y 7) v' _
            rw [h13]
            exact HW2.out
          apply obl_priv 7
          case hd => rfl
          case hp => rfl
          case hrun =>
            intro D y wz hW hD R hR
            have HRR := Lib.hid hR
            clear hR
            have h14 : D 22 = true := hD.pre _ 22 rfl (by kernel_rfl)
            have HW := Lib.hid hW
            have H14 := Lib.hid h14
            clear hW hD h14
            go_wp2
            refine HRR.out _ _ ?_
            show AppW wr2 (w.heap.size + 1) 3 1 (u7) (k) (((nextL m.give wall l).take k).map (Value.int .i64)) [.int .i64 ((m.give * bv + m.give * o + (1000 - 2 * m.give) * o) / 1000)] (D 21) (D 22) true (y 61) (y 61) _
            have h := HW.out
            rw [H14.out] at h ⊢
            exact h.assigned
          apply obl_nil
          intro D y w8 hall hW
          have h14 := hall 22 (by decide)
          have h15 := hall 23 (by decide)
          rw [h14, h15] at hW
          have hy := hW.put rfl
          have HO8 := Lib.hid (hW.new rfl)
          have C8 := Lib.hid hW.bel
          clear hW hall h14 h15
          rw [hy]
          clear hy
          generalize y 61 = yv at HO8 ⊢
          have HO9 : Hid (w8.ownsRow (w.heap.size + 1) 3 1 yv (k + 1) (((nextL m.give wall l).take (k + 1)).map (Value.int .i64))) := by
            unfold Hid
            rw [nextL_take _ _ _ _ HLL.out, List.map_append, HRA.out]
            exact HO8.out
          have C9 := Lib.hid (C4.out.app C8.out (fun p hp => by simp at hp; subst hp; exact Nat.lt_succ_self _) (Nat.le_succ _))
          clear HO8 C8 C4 HO4 c0 ck4 D y
          go_wp2
          go_roundw
          case rel => exact ⟨k + 1, HLT.out, by go_num, HO9.out, C9.out⟩
          case measure => have := HLT.out; simp [intOf]; omega
    · obtain rfl : k = n := by omega
      clear hC
      go_wp2
      go_ret
      refine ⟨_, rfl, ?_, C3.out.bel⟩
      have ho := HO.out
      rw [List.take_of_length_le (by rw [nextL_length, HN.out]; exact Nat.le_refl _)] at ho
      refine OwnInts.mono (base := w.heap.size + 1) ?_ (Nat.le_succ _)
      unfold OwnInts
      rw [nextL_length, HN.out]
      exact ho
end Go.Proofs.Ytafdagjdpnaddaa
