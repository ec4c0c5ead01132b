/- mould.next. -/
import Derived.Test.YtafdagjdpnaddaaBl
import Derived.Test.YtafdagjdpnaddaaW1
import Derived.StillTailTactics
import Derived.Deep.QuietTactic
import Derived.BigQuiet
import Derived.Outline
namespace Go.Proofs.Ytafdagjdpnaddaa
open Go.RowKit
/-- All 8 cells of the warmth of some rings. -/
def pad (l : List Int) : List Int := l ++ List.replicate (8 - l.length) 0
theorem pad_length {l : List Int} (h : l.length ≤ 8) : (pad l).length = 8 := by simp [pad]; omega
theorem pad_at {l : List Int} {i : Nat} (h : i < l.length) : (pad l).getD i 0 = l.getD i 0 := by simp [pad, List.getD, List.getElem?_append_left h]
/-- The first k rings a minute later. -/
def stepTo (g wall : Int) (l : List Int) (k : Nat) : List Int := (List.range l.length).map (fun i => if i < k then ringA g wall l i else l.getD i 0)
theorem stepTo_zero (g wall : Int) (l : List Int) : stepTo g wall l 0 = l := by
  apply List.ext_getElem? ; intro i
  by_cases h : i < l.length
  · simp [stepTo, h, List.getD]
  · simp [stepTo, h]
theorem stepTo_all (g wall : Int) (l : List Int) : stepTo g wall l l.length = nextL g wall l := by
  apply List.ext_getElem? ; intro i
  by_cases h : i < l.length
  · simp [stepTo, nextL, h]
  · simp [stepTo, nextL, h]
theorem stepTo_len (g wall : Int) (l : List Int) (k : Nat) : (stepTo g wall l k).length = l.length := by simp [stepTo]
theorem stepTo_succ (g wall : Int) (l : List Int) (k : Nat) (h : k < l.length) : (pad (stepTo g wall l k)).set k (ringA g wall l k) = pad (stepTo g wall l (k + 1)) := by
  unfold pad
  rw [stepTo_len, stepTo_len, List.set_append_left _ _ (by rw [stepTo_len]; exact h)]
  congr 1
  apply List.ext_getElem? ; intro i
  by_cases hi : i = k
  · subst hi
    rw [List.getElem?_set_self (by rw [stepTo_len]; exact h)]
    simp [stepTo, h]
  · rw [List.getElem?_set_ne (Ne.symm hi)]
    by_cases hl : i < l.length
    · simp only [stepTo, List.getElem?_map, List.getElem?_range hl, Option.map_some]
      by_cases hk : i < k
      · rw [if_pos hk, if_pos (by omega)]
      · rw [if_neg hk, if_neg (by omega)]
    · simp [stepTo, hl]
theorem info87 : (Try.prog.info? 87).map (·.size) = some 8 := by kernel_rfl
theorem info3 : (Try.prog.info? 3).map (·.size) = some 1 := by kernel_rfl
/-- How the program reckons it. -/
theorem ringN_prog (g b c o : Int) : (g * (b + c - 2 * o) + 1000 * o) / 1000 = ringN g b c o := by
  unfold ringN
  congr 1
  rw [Int.mul_sub, Int.mul_add, Int.sub_mul, ← Int.mul_assoc, Int.mul_comm g 2]
  omega
theorem ringN_low {g x y z : Int} (g0 : 0 ≤ g) (g5 : g ≤ 500) (hx : 0 ≤ x ∧ x ≤ 2000) (hy : 0 ≤ y ∧ y ≤ 2000) (hz : 0 ≤ z ∧ z ≤ 2000) :
    0 ≤ g * (x + y - 2 * z) + 1000 * z ∧ g * (x + y - 2 * z) + 1000 * z ≤ 4000000 ∧ -2000000 ≤ g * (x + y - 2 * z) ∧ g * (x + y - 2 * z) ≤ 2000000 := by
  have e : g * (x + y - 2 * z) = g * x + g * y - 2 * (g * z) := by
    rw [Int.mul_sub, Int.mul_add, ← Int.mul_assoc, Int.mul_comm g 2, Int.mul_assoc]
  rw [e]
  have h1 := Int.mul_le_mul_of_nonneg_left hx.2 g0
  have h2 := Int.mul_le_mul_of_nonneg_left hy.2 g0
  have h3 := Int.mul_le_mul_of_nonneg_right g5 hz.1
  have h4 := Int.mul_nonneg g0 hx.1
  have h5 := Int.mul_nonneg g0 hy.1
  have h6 := Int.mul_nonneg g0 hz.1
  generalize g * x = gx at *
  generalize g * y = gy at *
  generalize g * z = gz at *
  omega
set_option maxRecDepth 100000 in
set_option maxHeartbeats 4000000 in
theorem next_any (m : Mou) (g1 : 1 ≤ m.give) (g5 : m.give ≤ 500) (l : List Int) (hl : (l.length : Int) = m.rings) (h1 : 1 ≤ l.length) (h8 : l.length ≤ 8) (hb : Fits2 0 2000 l) (wall : Int) (hw : 0 ≤ wall ∧ wall ≤ 2000) (w : World) :
    Calls Try.prog 51 #[.agg #[.int .i64 m.rings, .int .i64 m.give, .int .i64 m.pl, .int .i64 m.ph, .int .i64 m.wl, .int .i64 m.wh, .int .i64 m.set, .int .i64 m.shrink, .int .i64 m.skin, .int .i64 m.fill, .int .i64 m.gap, .int .i64 m.deep], .agg (ints (pad l)), .int .i64 wall] w fun e w' => e = .returned (.agg (ints (pad (nextL m.give wall l)))) ∧ Below w.heap.size w w' := by
  have HP := Lib.hid (pad_length h8)
  have HL := Lib.hid hl
  have HB := Lib.hid hb
  clear hl hb
  obtain ⟨w0, w2⟩ := hw
  have C0 := Lib.hid ((((Bs.nil w).push _ rfl (.cells #[.int .i64 m.rings, .int .i64 m.give, .int .i64 m.pl, .int .i64 m.ph, .int .i64 m.wl, .int .i64 m.wh, .int .i64 m.set, .int .i64 m.shrink, .int .i64 m.skin, .int .i64 m.fill, .int .i64 m.gap, .int .i64 m.deep] 85)).push (w.heap.size + 1) (by simp) (.cells (ints (pad l)) 87)).push (w.heap.size + 1 + 1) (by simp) (.cells (ints (List.replicate 8 0)) 87))
  have C1 := Lib.hid (C0.out.push (w.heap.size + 1 + 1 + 1) (by simp) (.cells (ints (List.replicate 8 0)) 87))
  go_enter Try.func51, Try.ntmps51
  go_wp2_with (first | refine wpList_load_bs rfl 87 _ rfl C0.out 1 _ _ _ rfl rfl _ Try.underlying87 rfl (by rw [ints_size, HP.out]; exact info87) ?_ | (refine wpList_store_bs rfl 87 _ _ rfl C1.out 3 _ _ _ _ rfl rfl rfl (by rw [ints_size, HP.out]; exact info87) (by rw [ints_size, ints_size, HP.out]; rfl) (ints_oneCell _) ?_; intro w1 hC; have C2 := Lib.hid hC; have c2 := hC.cell 0 rfl; clear hC))
  go_loopw [15] (fun i wr => ∃ k : Nat, k ≤ l.length ∧ i = .int .i64 k ∧ Bs w ([] ++ [(w.heap.size, .cells #[.int .i64 m.rings, .int .i64 m.give, .int .i64 m.pl, .int .i64 m.ph, .int .i64 m.wl, .int .i64 m.wh, .int .i64 m.set, .int .i64 m.shrink, .int .i64 m.skin, .int .i64 m.fill, .int .i64 m.gap, .int .i64 m.deep] 85)] ++ [(w.heap.size + 1, .cells (ints (pad l)) 87)] ++ [(w.heap.size + 1 + 1, .cells (ints (List.replicate 8 0)) 87)] ++ [(w.heap.size + 1 + 1 + 1, .cells (ints (pad (stepTo m.give wall l k))) 87)]) wr)
    (fun i _ => l.length - (intOf i).toNat)
  case atStart => exact ⟨0, by omega, rfl, by rw [stepTo_zero]; exact C2.out⟩
  case round =>
    obtain ⟨k, hk, rfl, hC⟩ := hrel
    have C3 := Lib.hid hC
    have c0 := hC.cell 0 rfl
    by_cases hlt : k < l.length
    · obtain ⟨o, ho⟩ : ∃ o, l.getD k 0 = o := ⟨_, rfl⟩
      obtain ⟨bv, hbv⟩ : ∃ x, beforeA wall l k = x := ⟨_, rfl⟩
      obtain ⟨cv, hcv⟩ : ∃ x, behindA l k = x := ⟨_, rfl⟩
      have HRA : Hid (ringA m.give wall l k = ringN m.give bv cv o) := by unfold Hid ringA; rw [hbv, hcv, ho]
      have ck : wr.cell? ⟨w.heap.size + 1, k, none⟩ = some (.int .i64 o) := by rw [hC.cell 1 rfl, ints_get _ _ (by rw [HP.out]; omega), pad_at hlt, ho]
      have ho2 := HB.out k hlt
      have hbv2 := beforeA_bound HB.out ⟨w0, w2⟩ hlt
      have hcv2 := behindA_bound HB.out hlt
      rw [ho] at ho2
      rw [hbv] at hbv2
      rw [hcv] at hcv2
      have hlow := ringN_low (show 0 ≤ m.give by omega) g5 hbv2 hcv2 ho2
      obtain ⟨ho3, ho4⟩ := ho2
      obtain ⟨hbv3, hbv4⟩ := hbv2
      obtain ⟨hcv3, hcv4⟩ := hcv2
      obtain ⟨hlow1, hlow2, hlow3, hlow4⟩ := hlow
      have hr8 : m.rings ≤ 8 := by have := HL.out; omega
      have hr1 : 1 ≤ m.rings := by have := HL.out; omega
      have hkm : (k : Int) < m.rings := by have := HL.out; omega
      have hk8 : k < 8 := by omega
      unfold beforeA at hbv
      unfold behindA at hcv
      rw [ho] at hcv
      clear c2
      have hckv : (ints (pad l))[k]? = some (.int .i64 o) := by rw [ints_get _ _ (by rw [HP.out]; omega), pad_at hlt, ho]
      have HCK := Lib.hid hckv
      have HLT := Lib.hid hlt
      have HLL := Lib.hid hk
      have hk8 : (k : Int) < 8 := by omega
      have hdk : decide ((k : Int) < m.rings) = true := decide_eq_true hkm
      clear hckv ho hk
      by_cases hk0 : k = 0
      · have hd0 : decide ((0 : Int) < (k : Int)) = false := decide_eq_false (by omega)
        have hd0' : decide (0 < k) = false := decide_eq_false (by omega)
        rw [if_pos hk0] at hbv
        subst hbv
        by_cases hr : k + 1 < l.length
        · have hd1 : decide ((k : Int) < m.rings - 1) = true := decide_eq_true (by have := HL.out; omega)
          have hk18 : (k : Int) + 1 < 8 := by omega
          rw [if_pos hr] at hcv
          have ck1 : wr.cell? ⟨w.heap.size + 1, k + 1, none⟩ = some (.int .i64 cv) := by rw [hC.cell 1 rfl, ints_get _ _ (by rw [HP.out]; omega), pad_at hr, hcv]
          clear hC hcv hk0 hlt hkm hr
          go_wp2
          go_quiet (fail)
          go_wp2
          refine wp_region_inv0 (by kernel_rfl) (by kernel_rfl) (fun D w' => Bs w ([] ++ [(w.heap.size, .cells #[.int .i64 m.rings, .int .i64 m.give, .int .i64 m.pl, .int .i64 m.ph, .int .i64 m.wl, .int .i64 m.wh, .int .i64 m.set, .int .i64 m.shrink, .int .i64 m.skin, .int .i64 m.fill, .int .i64 m.gap, .int .i64 m.deep] 85)] ++ [(w.heap.size + 1, .cells (ints (pad l)) 87)] ++ [(w.heap.size + 1 + 1, .cells (ints (List.replicate 8 0)) 87)] ++ [(w.heap.size + 1 + 1 + 1, .cells (if D 20 = true then ints (pad (stepTo m.give wall l (k + 1))) else ints (pad (stepTo m.give wall l k))) 87)]) w') (C3.out.drewN _).drew ?_
          iterate 20
            (apply obl_det
             case hrun =>
               intro D y wz hW hD R hR
               have HRR := Lib.hid hR
               clear hR
               have HW := Lib.hid hW
               have c0 := hW.cell 0 rfl
               have ck : wz.cell? ⟨w.heap.size + 1, k, none⟩ = some (.int .i64 o) := by rw [hW.cell 1 rfl]; exact HCK.out
               clear hW hD
               go_wp2
               exact HRR.out _ HW.out
             case hnp => rfl
             case hv => first | exact ⟨_, fun _ => rfl⟩ | exact ⟨undef, fun _ => rfl⟩)
          apply obl_det
          case hrun =>
            intro D y wz hW hD R hR
            have HRR := Lib.hid hR
            clear hR
            have HW := Lib.hid hW
            have hd : D 20 = false := hD.not
            clear hW hD
            refine wpList_cell_bs rfl 3 _ _ rfl HW.out 3 _ k _ _ rfl rfl (.int .i64 ((m.give * (wall + cv - 2 * o) + 1000 * o) / 1000)) rfl (by rw [hd, if_neg (by simp), ints_size, pad_length (by rw [stepTo_len]; exact h8)]; omega) rfl info3 ?_
            intro w2 hC2
            rw [hd, if_neg (by simp), ints_set] at hC2
            have e : (m.give * (wall + cv - 2 * o) + 1000 * o) / 1000 = ringA m.give wall l k := by rw [HRA.out, ringN_prog]
            rw [e, stepTo_succ _ _ _ _ HLT.out] at hC2
            exact HRR.out _ hC2
          case hnp => rfl
          case hv => first | exact ⟨_, fun _ => rfl⟩ | exact ⟨undef, fun _ => rfl⟩
          apply obl_nil
          intro D y w8 hall hW
          have h20 : D 20 = true := hall 20 (by decide)
          rw [h20, if_pos rfl] at hW
          have HW := Lib.hid hW
          clear hW hall h20 D
          go_wp2
          go_roundw
          case rel => exact ⟨k + 1, HLT.out, by go_num, HW.out⟩
          case measure => have := HLT.out; simp [intOf]; omega
        · have hd1 : decide ((k : Int) < m.rings - 1) = false := decide_eq_false (by have := HL.out; omega)
          rw [if_neg hr] at hcv
          subst hcv
          clear hC hk0 hlt hkm hr
          go_wp2
          go_quiet (fail)
          go_wp2
          refine wp_region_inv0 (by kernel_rfl) (by kernel_rfl) (fun D w' => Bs w ([] ++ [(w.heap.size, .cells #[.int .i64 m.rings, .int .i64 m.give, .int .i64 m.pl, .int .i64 m.ph, .int .i64 m.wl, .int .i64 m.wh, .int .i64 m.set, .int .i64 m.shrink, .int .i64 m.skin, .int .i64 m.fill, .int .i64 m.gap, .int .i64 m.deep] 85)] ++ [(w.heap.size + 1, .cells (ints (pad l)) 87)] ++ [(w.heap.size + 1 + 1, .cells (ints (List.replicate 8 0)) 87)] ++ [(w.heap.size + 1 + 1 + 1, .cells (if D 20 = true then ints (pad (stepTo m.give wall l (k + 1))) else ints (pad (stepTo m.give wall l k))) 87)]) w') (C3.out.drewN _).drew ?_
          iterate 20
            (apply obl_det
             case hrun =>
               intro D y wz hW hD R hR
               have HRR := Lib.hid hR
               clear hR
               have HW := Lib.hid hW
               have c0 := hW.cell 0 rfl
               have ck : wz.cell? ⟨w.heap.size + 1, k, none⟩ = some (.int .i64 o) := by rw [hW.cell 1 rfl]; exact HCK.out
               clear hW hD
               go_wp2
               exact HRR.out _ HW.out
             case hnp => rfl
             case hv => first | exact ⟨_, fun _ => rfl⟩ | exact ⟨undef, fun _ => rfl⟩)
          apply obl_det
          case hrun =>
            intro D y wz hW hD R hR
            have HRR := Lib.hid hR
            clear hR
            have HW := Lib.hid hW
            have hd : D 20 = false := hD.not
            clear hW hD
            refine wpList_cell_bs rfl 3 _ _ rfl HW.out 3 _ k _ _ rfl rfl (.int .i64 ((m.give * (wall + o - 2 * o) + 1000 * o) / 1000)) rfl (by rw [hd, if_neg (by simp), ints_size, pad_length (by rw [stepTo_len]; exact h8)]; omega) rfl info3 ?_
            intro w2 hC2
            rw [hd, if_neg (by simp), ints_set] at hC2
            have e : (m.give * (wall + o - 2 * o) + 1000 * o) / 1000 = ringA m.give wall l k := by rw [HRA.out, ringN_prog]
            rw [e, stepTo_succ _ _ _ _ HLT.out] at hC2
            exact HRR.out _ hC2
          case hnp => rfl
          case hv => first | exact ⟨_, fun _ => rfl⟩ | exact ⟨undef, fun _ => rfl⟩
          apply obl_nil
          intro D y w8 hall hW
          have h20 : D 20 = true := hall 20 (by decide)
          rw [h20, if_pos rfl] at hW
          have HW := Lib.hid hW
          clear hW hall h20 D
          go_wp2
          go_roundw
          case rel => exact ⟨k + 1, HLT.out, by go_num, HW.out⟩
          case measure => have := HLT.out; simp [intOf]; omega
      · have hd0 : decide ((0 : Int) < (k : Int)) = true := decide_eq_true (by omega)
        have hd0' : decide (0 < k) = true := decide_eq_true (by omega)
        rw [if_neg hk0] at hbv
        obtain ⟨j, hj⟩ : ∃ j : Nat, j + 1 = k := ⟨k - 1, by omega⟩
        have hjk : (k : Int) - 1 = (j : Int) := by omega
        have hj8 : (j : Int) < 8 := by omega
        have ckj : wr.cell? ⟨w.heap.size + 1, j, none⟩ = some (.int .i64 bv) := by rw [hC.cell 1 rfl, ints_get _ _ (by rw [HP.out]; omega), pad_at (by omega), show j = k - 1 by omega, hbv]
        by_cases hr : k + 1 < l.length
        · have hd1 : decide ((k : Int) < m.rings - 1) = true := decide_eq_true (by have := HL.out; omega)
          have hk18 : (k : Int) + 1 < 8 := by omega
          rw [if_pos hr] at hcv
          have ck1 : wr.cell? ⟨w.heap.size + 1, k + 1, none⟩ = some (.int .i64 cv) := by rw [hC.cell 1 rfl, ints_get _ _ (by rw [HP.out]; omega), pad_at hr, hcv]
          clear hC hcv hbv hk0 hlt hkm hr hj
          go_wp2
          go_quiet (fail)
          go_wp2
          refine wp_region_inv0 (by kernel_rfl) (by kernel_rfl) (fun D w' => Bs w ([] ++ [(w.heap.size, .cells #[.int .i64 m.rings, .int .i64 m.give, .int .i64 m.pl, .int .i64 m.ph, .int .i64 m.wl, .int .i64 m.wh, .int .i64 m.set, .int .i64 m.shrink, .int .i64 m.skin, .int .i64 m.fill, .int .i64 m.gap, .int .i64 m.deep] 85)] ++ [(w.heap.size + 1, .cells (ints (pad l)) 87)] ++ [(w.heap.size + 1 + 1, .cells (ints (List.replicate 8 0)) 87)] ++ [(w.heap.size + 1 + 1 + 1, .cells (if D 20 = true then ints (pad (stepTo m.give wall l (k + 1))) else ints (pad (stepTo m.give wall l k))) 87)]) w') (C3.out.drewN _).drew ?_
          iterate 20
            (apply obl_det
             case hrun =>
               intro D y wz hW hD R hR
               have HRR := Lib.hid hR
               clear hR
               have HW := Lib.hid hW
               have c0 := hW.cell 0 rfl
               have ck : wz.cell? ⟨w.heap.size + 1, k, none⟩ = some (.int .i64 o) := by rw [hW.cell 1 rfl]; exact HCK.out
               clear hW hD
               go_wp2
               exact HRR.out _ HW.out
             case hnp => rfl
             case hv => first | exact ⟨_, fun _ => rfl⟩ | exact ⟨undef, fun _ => rfl⟩)
          apply obl_det
          case hrun =>
            intro D y wz hW hD R hR
            have HRR := Lib.hid hR
            clear hR
            have HW := Lib.hid hW
            have hd : D 20 = false := hD.not
            clear hW hD
            refine wpList_cell_bs rfl 3 _ _ rfl HW.out 3 _ k _ _ rfl rfl (.int .i64 ((m.give * (bv + cv - 2 * o) + 1000 * o) / 1000)) rfl (by rw [hd, if_neg (by simp), ints_size, pad_length (by rw [stepTo_len]; exact h8)]; omega) rfl info3 ?_
            intro w2 hC2
            rw [hd, if_neg (by simp), ints_set] at hC2
            have e : (m.give * (bv + cv - 2 * o) + 1000 * o) / 1000 = ringA m.give wall l k := by rw [HRA.out, ringN_prog]
            rw [e, stepTo_succ _ _ _ _ HLT.out] at hC2
            exact HRR.out _ hC2
          case hnp => rfl
          case hv => first | exact ⟨_, fun _ => rfl⟩ | exact ⟨undef, fun _ => rfl⟩
          apply obl_nil
          intro D y w8 hall hW
          have h20 : D 20 = true := hall 20 (by decide)
          rw [h20, if_pos rfl] at hW
          have HW := Lib.hid hW
          clear hW hall h20 D
          go_wp2
          go_roundw
          case rel => exact ⟨k + 1, HLT.out, by go_num, HW.out⟩
          case measure => have := HLT.out; simp [intOf]; omega
        · have hd1 : decide ((k : Int) < m.rings - 1) = false := decide_eq_false (by have := HL.out; omega)
          rw [if_neg hr] at hcv
          subst hcv
          clear hC hbv hk0 hlt hkm hr hj
          go_wp2
          go_quiet (fail)
          go_wp2
          refine wp_region_inv0 (by kernel_rfl) (by kernel_rfl) (fun D w' => Bs w ([] ++ [(w.heap.size, .cells #[.int .i64 m.rings, .int .i64 m.give, .int .i64 m.pl, .int .i64 m.ph, .int .i64 m.wl, .int .i64 m.wh, .int .i64 m.set, .int .i64 m.shrink, .int .i64 m.skin, .int .i64 m.fill, .int .i64 m.gap, .int .i64 m.deep] 85)] ++ [(w.heap.size + 1, .cells (ints (pad l)) 87)] ++ [(w.heap.size + 1 + 1, .cells (ints (List.replicate 8 0)) 87)] ++ [(w.heap.size + 1 + 1 + 1, .cells (if D 20 = true then ints (pad (stepTo m.give wall l (k + 1))) else ints (pad (stepTo m.give wall l k))) 87)]) w') (C3.out.drewN _).drew ?_
          iterate 20
            (apply obl_det
             case hrun =>
               intro D y wz hW hD R hR
               have HRR := Lib.hid hR
               clear hR
               have HW := Lib.hid hW
               have c0 := hW.cell 0 rfl
               have ck : wz.cell? ⟨w.heap.size + 1, k, none⟩ = some (.int .i64 o) := by rw [hW.cell 1 rfl]; exact HCK.out
               clear hW hD
               go_wp2
               exact HRR.out _ HW.out
             case hnp => rfl
             case hv => first | exact ⟨_, fun _ => rfl⟩ | exact ⟨undef, fun _ => rfl⟩)
          apply obl_det
          case hrun =>
            intro D y wz hW hD R hR
            have HRR := Lib.hid hR
            clear hR
            have HW := Lib.hid hW
            have hd : D 20 = false := hD.not
            clear hW hD
            refine wpList_cell_bs rfl 3 _ _ rfl HW.out 3 _ k _ _ rfl rfl (.int .i64 ((m.give * (bv + o - 2 * o) + 1000 * o) / 1000)) rfl (by rw [hd, if_neg (by simp), ints_size, pad_length (by rw [stepTo_len]; exact h8)]; omega) rfl info3 ?_
            intro w2 hC2
            rw [hd, if_neg (by simp), ints_set] at hC2
            have e : (m.give * (bv + o - 2 * o) + 1000 * o) / 1000 = ringA m.give wall l k := by rw [HRA.out, ringN_prog]
            rw [e, stepTo_succ _ _ _ _ HLT.out] at hC2
            exact HRR.out _ hC2
          case hnp => rfl
          case hv => first | exact ⟨_, fun _ => rfl⟩ | exact ⟨undef, fun _ => rfl⟩
          apply obl_nil
          intro D y w8 hall hW
          have h20 : D 20 = true := hall 20 (by decide)
          rw [h20, if_pos rfl] at hW
          have HW := Lib.hid hW
          clear hW hall h20 D
          go_wp2
          go_roundw
          case rel => exact ⟨k + 1, HLT.out, by go_num, HW.out⟩
          case measure => have := HLT.out; simp [intOf]; omega
    · have hke : k = l.length := by omega
      subst hke
      have hdk : decide ((l.length : Int) < m.rings) = false := decide_eq_false (by have := HL.out; omega)
      rw [stepTo_all] at C3
      have hpn : (pad (nextL m.give wall l)).length = 8 := pad_length (by rw [nextL_length]; exact h8)
      have HPN := Lib.hid hpn
      clear hC c2 hpn
      go_wp2_with (first | refine wpList_load_bs rfl 87 _ rfl C3.out 3 _ _ _ rfl rfl _ Try.underlying87 rfl (by rw [ints_size, HPN.out]; exact info87) ?_ | (refine wpList_store_bs rfl 87 _ _ rfl C3.out 2 _ _ _ _ rfl rfl rfl (by rw [ints_size, HPN.out]; exact info87) (by rw [ints_size, ints_size, HPN.out]; rfl) (ints_oneCell _) ?_; intro w5 hC5))
      refine bodyPost_ret (v := .agg (ints (pad (nextL m.give wall l)))) (results_cell_row (fn := Try.f51) rfl _ _ _ _ _ _ _ rfl (hC5.get 2 rfl) Try.underlying87 rfl (by rw [ints_size, HPN.out]; exact info87)) rfl ⟨rfl, hC5.bel⟩
end Go.Proofs.Ytafdagjdpnaddaa
