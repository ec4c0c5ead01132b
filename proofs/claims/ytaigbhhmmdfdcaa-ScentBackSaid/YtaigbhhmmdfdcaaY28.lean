/- stearinref07.More. -/
import Derived.Test.YtaigbhhmmdfdcaaP17
import Derived.Test.YtaigbhhmmdfdcaaYd
import Derived.Test.YtaigbhhmmdfdcaaYa
namespace Go.Proofs.Ytaigbhhmmdfdcaa
open Go.RowKit
theorem more_read {w w6 : World} {l : List Bat} {n L lot m gR gG cR cG : Nat} {g : Int} {OL CUR : List Value} {cur2 : Array Value} {vg vb va : Value} (hn : l.length = n) (hn6 : n ≤ 6) (hL : L + 1 = n) (hlot : lot < m) (hm : (l.getD L default).grams.length = m) (hm6 : m ≤ 6)
    (hR : w6.heap[gR]? = some (.cells (CUR.take (L * 3) ++ [.slice (some ⟨gG, 0, none⟩) m cG, vb, va] ++ (CUR.drop (L * 3)).drop 3).toArray 75)) (hG : w6.heap[gG]? = some (.cells (cur2.setIfInBounds lot (.int .i64 ((l.getD L default).grams.getD lot 0 + g))) 3))
    (hc : ∀ j u, j < n * 3 → OL[j]? = some u → CUR[j]? = some u) (hcl : n * 3 ≤ CUR.length) (hOL : ∀ i, i < n → ∃ vg vb va, OL[i * 3]? = some vg ∧ OL[i * 3 + 1]? = some vb ∧ OL[i * 3 + 2]? = some va ∧ BatAt w.heap.size w vg vb va (l.getD i default))
    (hc2 : ∀ j, j < m → cur2[j]? = some (.int .i64 ((l.getD L default).grams.getD j 0))) (hb : Below w.heap.size w w6) (hat : BatAt w.heap.size w vg vb va (l.getD L default)) (hcR : n ≤ cR) : BatsIn w6.heap.size w6 (.slice (some ⟨gR, 0, none⟩) n cR) (moreL l lot g) := by
  have hLL : l.length - 1 = L := by omega
  have hlen : (CUR.take (L * 3)).length = L * 3 := by rw [List.length_take]; omega
  refine ⟨_, cR, by rw [moreL_len, hn], by rw [moreL_len]; omega, by rw [moreL_len, hn]; exact hcR, .inr ⟨gR, 0, rfl, block_lt hR, fun i hi => ?_⟩⟩
  rw [moreL_len, hn] at hi
  have hcell : ∀ j, w6.cell? ⟨gR, 0 + j, none⟩ = (CUR.take (L * 3) ++ [.slice (some ⟨gG, 0, none⟩) m cG, vb, va] ++ (CUR.drop (L * 3)).drop 3)[j]? := fun j => by
    rw [cell_of_row w6 gR _ _ _ _ hR, Nat.zero_add, List.getElem?_toArray]
  by_cases hiL : i < L
  · obtain ⟨a1, a2, a3, e1, e2, e3, e4⟩ := hOL i (by omega)
    rw [moreL_other (by omega)]
    have pick : ∀ j u, j < L * 3 → OL[j]? = some u → (CUR.take (L * 3) ++ [.slice (some ⟨gG, 0, none⟩) m cG, vb, va] ++ (CUR.drop (L * 3)).drop 3)[j]? = some u := fun j u hj hu => by
      rw [List.append_assoc, List.getElem?_append_left (by omega), List.getElem?_take, if_pos hj]
      exact hc j u (by omega) hu
    refine ⟨a1, a2, a3, ?_, ?_, ?_, (e4.below hb).mono hb.size⟩
    · exact (hcell _).trans (pick _ _ (show i * 3 < L * 3 by omega) e1)
    · exact (by rw [Nat.add_assoc]; exact hcell _ : w6.cell? ⟨gR, 0 + i * rdBat.sz + 1, none⟩ = _).trans (pick _ _ (show i * 3 + 1 < L * 3 by omega) e2)
    · exact (by rw [Nat.add_assoc]; exact hcell _ : w6.cell? ⟨gR, 0 + i * rdBat.sz + 2, none⟩ = _).trans (pick _ _ (show i * 3 + 2 < L * 3 by omega) e3)
  · obtain rfl : i = L := by omega
    have hml : (moreL l lot g).getD i default = moreB (l.getD i default) lot g := by rw [← hLL]; exact moreL_last (by omega)
    rw [hml]
    have pick : ∀ q u, [Value.slice (some ⟨gG, 0, none⟩) m cG, vb, va][q]? = some u → q < 3 → (CUR.take (i * 3) ++ [.slice (some ⟨gG, 0, none⟩) m cG, vb, va] ++ (CUR.drop (i * 3)).drop 3)[i * 3 + q]? = some u := fun q u hu hq => by
      rw [List.append_assoc, List.getElem?_append_right (by omega), hlen, Nat.add_sub_cancel_left, List.getElem?_append_left (by simpa using hq)]
      exact hu
    refine ⟨.slice (some ⟨gG, 0, none⟩) m cG, vb, va, (hcell _).trans (pick 0 _ rfl (by omega)), (by rw [Nat.add_assoc]; exact hcell _ : w6.cell? ⟨gR, 0 + i * rdBat.sz + 1, none⟩ = _).trans (pick 1 _ rfl (by omega)), (by rw [Nat.add_assoc]; exact hcell _ : w6.cell? ⟨gR, 0 + i * rdBat.sz + 2, none⟩ = _).trans (pick 2 _ rfl (by omega)), ?_, (hat.2.1.below hb).mono hb.size, (hat.2.2.below hb).mono hb.size⟩
    have hgl : (moreB (l.getD i default) lot g).grams.length = m := by rw [← hm]; simp [moreB]
    refine ⟨_, cG, by rw [hgl], by rw [hgl]; omega, .inr ⟨gG, 0, rfl, block_lt hG, fun j hj => ?_⟩⟩
    rw [hgl] at hj
    rw [cell_of_row w6 gG _ _ _ _ hG, Nat.zero_add, moreB_gram _ g (by omega)]
    by_cases hjl : j = lot
    · subst hjl
      have hs : j < cur2.size := by
        obtain ⟨h, -⟩ := Array.getElem?_eq_some_iff.1 (hc2 j hj)
        exact h
      rw [if_pos rfl, Array.getElem?_setIfInBounds_self_of_lt hs]
    · rw [if_neg hjl, Array.getElem?_setIfInBounds_ne (fun e => hjl e.symm), hc2 j hj]
      congr 2
      omega
theorem info36m : (Try.prog.info? 36).map (·.size) = some 1 := by kernel_rfl
/-- A row that was laid anew. -/
theorem laid_row {w w' : World} {n sz : Nat} {e : TypeId} {v : Value} {xs : List Value} (h : w'.ownsRow w.heap.size e sz v n xs) (hn : n ≠ 0) : ∃ b c, v = .slice (some ⟨b, 0, none⟩) n c ∧ w.heap.size ≤ b ∧ n ≤ c ∧ ∃ cur : Array Value, w'.heap[b]? = some (.cells cur e) ∧ n * sz ≤ cur.size ∧ ∀ j u, j < n * sz → xs[j]? = some u → cur[j]? = some u := by
  rcases ownsRow_cells h with ⟨h0, -⟩ | ⟨b, c, rfl, hb, -, hc, hj, cur, hcur, hsz⟩
  · exact absurd h0 hn
  · exact ⟨b, c, rfl, hb, hc, cur, hcur, hsz, fun j u hlt hu => by have := hj j u hlt hu; rw [cell_of_row _ _ _ _ _ _ hcur] at this; exact this⟩
set_option maxRecDepth 100000 in
set_option maxHeartbeats 16000000 in
theorem more_ref (l : List Bat) (lot : Nat) (g : Int) (v : Value) (w : World) (hv : BatsIn w.heap.size w v l) (hn1 : 1 ≤ l.length) (hn6 : l.length ≤ 6) (hlot : lot < (l.getD (l.length - 1) default).grams.length) (hm6 : (l.getD (l.length - 1) default).grams.length ≤ 6)
    (hgb : 0 ≤ (l.getD (l.length - 1) default).grams.getD lot 0 ∧ (l.getD (l.length - 1) default).grams.getD lot 0 ≤ 100000) (hg : 0 ≤ g ∧ g ≤ 100000) :
    Calls Try.prog 45 #[v, .int .i64 lot, .int .i64 g] w fun e w' => ∃ t, e = .returned t ∧ BatsIn w'.heap.size w' t (moreL l lot g) ∧ Below w.heap.size w w' := by
  have HL := Lib.hid hv
  obtain ⟨a, c, rfl, -, -⟩ := sl_shape hv
  clear hv
  obtain ⟨b, o, rfl, hbb, OL, hol, hoc, hone, hbt⟩ := bats_words HL.out rfl hn1
  obtain ⟨L, hL⟩ : ∃ L, l.length - 1 = L := ⟨_, rfl⟩
  rw [hL] at hlot hm6 hgb
  have hLn : L + 1 = l.length := by omega
  have hLi : (L : Int) < (l.length : Int) := by omega
  have hLE : (l.length : Int) - 1 = (L : Int) := by omega
  clear hL
  obtain ⟨vg, vb, va, hv1, hv2, hv3, hat⟩ := hbt L (by omega)
  obtain ⟨m, hm⟩ : ∃ m, (l.getD L default).grams.length = m := ⟨_, rfl⟩
  have HAT := Lib.hid hat
  obtain ⟨ag, cg, rfl⟩ := hat.1.shape hm
  obtain ⟨nb, hnb⟩ : ∃ nb, (l.getD L default).back.length = nb := ⟨_, rfl⟩
  obtain ⟨na, hna⟩ : ∃ na, (l.getD L default).added.length = na := ⟨_, rfl⟩
  obtain ⟨ab, cb, rfl⟩ := hat.2.1.shape hnb
  obtain ⟨aa, ca, rfl, -, -⟩ := sl_shape hat.2.2
  rw [hna] at hv3 hat HAT
  clear hnb hna
  rw [hm] at hlot hm6
  obtain ⟨bg, og, rfl, hbg, -⟩ := hat.1.at' (i := lot) (by omega)
  have HGW : Hid (∀ j, j < m → w.cell? ⟨bg, og + j, none⟩ = some (.int .i64 ((l.getD L default).grams.getD j 0))) := fun j hj => by
    obtain ⟨b', o', he, -, h⟩ := hat.1.at' (i := j) (by omega)
    cases he
    exact h
  have HM := Lib.hid hm
  have HOL := Lib.hid hol
  have HOC := Lib.hid hoc
  have HON := Lib.hid hone
  have HOB := Lib.hid hbt
  have HBB := Lib.hid hbb
  have HBG := Lib.hid hbg
  have HV1 := Lib.hid hv1
  have HV2 := Lib.hid hv2
  have HV3 := Lib.hid hv3
  have HGB := Lib.hid hgb
  clear hol hoc hone hbt hbb hbg hv1 hv2 hv3 hat hgb hm
  have HBA : Hid (Below w.heap.size w (w.alloc (.cells #[] 75))) := ba_allocB w _
  obtain ⟨W0, hW0⟩ : ∃ W, w.alloc (.cells #[] 75) = W := ⟨_, rfl⟩
  rw [hW0] at HBA
  obtain ⟨i0, hi0, hz0, hz1, hz2⟩ := info75'
  have HI0 := Lib.hid hi0
  have HZ0 := Lib.hid hz0
  have HZ1 := Lib.hid hz1
  have HZ2 := Lib.hid hz2
  clear hi0 hz0 hz1 hz2
  have HNL : Hid (∀ j u, (((l.getD L default).grams).map (Value.int .i64))[j]? = some u → u = .int .i64 ((l.getD L default).grams.getD j 0) ∧ j < m) := fun j u hu => by
    rw [List.getElem?_map] at hu
    have hj : j < (l.getD L default).grams.length := by
      by_cases h : j < (l.getD L default).grams.length
      · exact h
      · rw [List.getElem?_eq_none (by omega)] at hu; cases hu
    rw [List.getElem?_eq_getElem hj] at hu
    refine ⟨?_, by rw [← HM.out]; exact hj⟩
    rw [List.getD_eq_getElem?_getD, List.getElem?_eq_getElem hj]
    simpa using hu.symm
  have HLN : Hid ((((l.getD L default).grams).map (Value.int .i64)).length = m * 1) := by unfold Hid; rw [List.length_map, HM.out, Nat.mul_one]
  have HON2 : Hid (∀ u ∈ ((l.getD L default).grams).map (Value.int .i64), u.oneCell' = true) := fun u hu => by obtain ⟨x, -, rfl⟩ := List.mem_map.1 hu; rfl
  have HGJ : Hid (∀ j, j < m → (((l.getD L default).grams).map (Value.int .i64))[j]? = some (.int .i64 ((l.getD L default).grams.getD j 0))) := fun j hj => by
    have hj' : j < (l.getD L default).grams.length := by rw [HM.out]; exact hj
    generalize (l.getD L default).grams = gs at *
    simp [hj']
  generalize ((l.getD L default).grams).map (Value.int .i64) = GL at *
  obtain ⟨x0, hx0⟩ : ∃ x, (l.getD L default).grams.getD lot 0 = x := ⟨_, rfl⟩
  rw [hx0] at HGB
  have HX0 := Lib.hid hx0
  clear hx0
  obtain ⟨j0, hj0, hy0, hy1, hy2⟩ := info3'
  have HJ0 := Lib.hid hj0
  have HY0 := Lib.hid hy0
  have HY1 := Lib.hid hy1
  have HY2 := Lib.hid hy2
  clear hj0 hy0 hy1 hy2
  go_enter Try.func45, Try.ntmps45
  go_wp2_with (first | (refine wpList_cell_bs rfl 36 _ _ rfl C4.out 1 G 0 _ 75 rfl rfl _ rfl (by simp) rfl info36m ?_; intro w5 hC5) | (at_builtin; refine wpList_append_grows _ rfl _ _ 31 rfl 75 i0 (.agg #[.slice none 0 0, .slice none 0 0, .slice none 0 0]) 3 72 Try.underlying31 HI0.out HZ0.out HZ1.out HZ2.out rfl (by decide) (some ⟨w.heap.size, 0, none⟩) 0 0 [] rfl (by simp) rfl (by simp) ⟨b, o, none⟩ l.length c OL rfl HOL.out (fun j u hu => by rw [addr_add]; exact (HBA.out.cell (p := ⟨b, o + j, none⟩) HBB.out).trans (HOC.out j u hu)) HON.out (by omega) (by unfold maxLen; omega) (by omega) ?_; intro v' w1 hown hgrow; rw [Nat.zero_add, List.nil_append] at hown; obtain ⟨gR, cR, rfl, hgR, hcR, cur, hcur, hcsz, hcells⟩ := laid_row hown (by omega); have HB1 := Lib.hid (HBA.out.grown hgrow HBA.out.size (fun k e => by cases e)); have C1 := Lib.hid (Bs.snoc (l := []) (w := w) ⟨by simp, by simp, by simp, HB1.out⟩ (by simp) hcur (Nat.le_trans HBA.out.size hgR)); have HCC := Lib.hid hcells; have h1 := (cell_of_row w1 gR (L * 3) _ _ _ hcur).trans (hcells _ _ (by omega) HV1.out); have h2 := (cell_of_row w1 gR (L * 3 + 1) _ _ _ hcur).trans (hcells _ _ (by omega) HV2.out); have h3 := (cell_of_row w1 gR (L * 3 + 2) _ _ _ hcur).trans (hcells _ _ (by omega) HV3.out); have C2 := Lib.hid (C1.out.push _ rfl (.cells #[.slice (some ⟨bg, og, none⟩) m cg, .slice ab nb cb, .slice aa na ca] 75)); obtain ⟨G, hG⟩ : ∃ G, w1.heap.size = G := ⟨_, rfl⟩; rw [hG] at C2; have C3 := Lib.hid (C2.out.alloc (.cells #[] 3)); clear hown hgrow hcur hgR hcells) | (at_builtin; refine wpList_append_grows _ rfl _ _ 36 rfl 3 j0 (.int .i64 0) 1 8 Try.underlying36 HJ0.out HY0.out HY1.out HY2.out rfl (by decide) _ 0 0 [] rfl (by simp) rfl (by simp) ⟨bg, og, none⟩ m cg GL rfl HLN.out (fun j u hu => by rw [addr_add]; obtain ⟨rfl, hj⟩ := HNL.out j u hu; exact (C3.out.bel.cell (p := ⟨bg, og + j, none⟩) HBG.out).trans (HGW.out j hj)) HON2.out (by omega) (by unfold maxLen; omega) (by omega) ?_; intro v' w4 hown hgrow; rw [Nat.zero_add, List.nil_append] at hown; obtain ⟨gG, cG, rfl, hgG, hcG, cur2, hcur2, hcsz2, hcells2⟩ := laid_row hown (by omega); have C3' := Lib.hid (C3.out.call ((Below.refl _ _).grown hgrow (Nat.le_refl _) (fun k e => by cases e))); have C4 := Lib.hid (Bs.snoc C3'.out (by intro p hp; have := C3.out.get' p hp; exact Nat.lt_of_lt_of_le (block_lt this) hgG) hcur2 (Nat.le_trans C3.out.bel.size hgG)); have HC2 := Lib.hid hcells2; clear hown hgrow hcur2 hgG hcells2))
  have C5 : Hid (Bs w [(gR, .cells cur 75), (G, .cells #[.slice (some ⟨gG, 0, none⟩) m cG, .slice ab nb cb, .slice aa na ca] 75), (gG, .cells cur2 3)] w5) := hC5
  have HCL : Hid (cur2[lot]? = some (.int .i64 x0)) := by unfold Hid; rw [← HX0.out]; exact HC2.out lot _ (by omega) (HGJ.out lot hlot)
  have hls : lot < cur2.size := by omega
  have hli : (lot : Int) < (m : Int) := by omega
  clear hC5 C4 C3' C3 C2 C1 h1 h2 h3 hG HB1 HBA
  refine wp_region_inv0 (by kernel_rfl) (by kernel_rfl) (fun D w' => Bs w [(gR, .cells cur 75), (G, .cells #[.slice (some ⟨gG, 0, none⟩) m cG, .slice ab nb cb, .slice aa na ca] 75), (gG, .cells (if D 11 then (cur2.setIfInBounds lot (.int .i64 (x0 + g))) else cur2) 3)] w') (C5.out.drew) ?_
  apply obl_det
  case hrun =>
    intro D y wz hW hD R hR
    have HRR := Lib.hid hR
    clear hR
    have h11 : D 11 = false := hD.post _ 11 rfl (by kernel_rfl)
    rw [h11] at hW
    have H11 := Lib.hid h11
    clear h11
    have HW := Lib.hid hW
    clear hW hD
    go_wp2_with fail
    refine HRR.out _ ?_
    show Bs w [(gR, .cells cur 75), (G, .cells #[.slice (some ⟨gG, 0, none⟩) m cG, .slice ab nb cb, .slice aa na ca] 75), (gG, .cells (if D 11 then (cur2.setIfInBounds lot (.int .i64 (x0 + g))) else cur2) 3)] _
    rw [H11.out]
    exact HW.out
  case hnp => rfl
  case hv => first | exact ⟨_, fun _ => rfl⟩ | exact ⟨undef, fun _ => rfl⟩
  apply obl_det
  case hrun =>
    intro D y wz hW hD R hR
    have HRR := Lib.hid hR
    clear hR
    have h11 : D 11 = false := hD.post _ 11 rfl (by kernel_rfl)
    rw [h11] at hW
    have H11 := Lib.hid h11
    clear h11
    have HW := Lib.hid hW
    have h1 := HW.out.cell 1 rfl 0
    clear hW hD
    go_wp2_with fail
    refine HRR.out _ ?_
    show Bs w [(gR, .cells cur 75), (G, .cells #[.slice (some ⟨gG, 0, none⟩) m cG, .slice ab nb cb, .slice aa na ca] 75), (gG, .cells (if D 11 then (cur2.setIfInBounds lot (.int .i64 (x0 + g))) else cur2) 3)] _
    rw [H11.out]
    exact HW.out
  case hnp => rfl
  case hv => first | exact ⟨_, fun _ => rfl⟩ | exact ⟨undef, fun _ => rfl⟩
  apply obl_det
  case hrun =>
    intro D y wz hW hD R hR
    have HRR := Lib.hid hR
    clear hR
    have h11 : D 11 = false := hD.post _ 11 rfl (by kernel_rfl)
    rw [h11] at hW
    have H11 := Lib.hid h11
    clear h11
    have HW := Lib.hid hW
    clear hW hD
    go_wp2_with fail
    refine HRR.out _ ?_
    show Bs w [(gR, .cells cur 75), (G, .cells #[.slice (some ⟨gG, 0, none⟩) m cG, .slice ab nb cb, .slice aa na ca] 75), (gG, .cells (if D 11 then (cur2.setIfInBounds lot (.int .i64 (x0 + g))) else cur2) 3)] _
    rw [H11.out]
    exact HW.out
  case hnp => rfl
  case hv => first | exact ⟨_, fun _ => rfl⟩ | exact ⟨undef, fun _ => rfl⟩
  apply obl_det
  case hrun =>
    intro D y wz hW hD R hR
    have HRR := Lib.hid hR
    clear hR
    have h11 : D 11 = false := hD.post _ 11 rfl (by kernel_rfl)
    rw [h11] at hW
    have H11 := Lib.hid h11
    clear h11
    have HW := Lib.hid hW
    clear hW hD
    go_wp2_with fail
    refine HRR.out _ ?_
    show Bs w [(gR, .cells cur 75), (G, .cells #[.slice (some ⟨gG, 0, none⟩) m cG, .slice ab nb cb, .slice aa na ca] 75), (gG, .cells (if D 11 then (cur2.setIfInBounds lot (.int .i64 (x0 + g))) else cur2) 3)] _
    rw [H11.out]
    exact HW.out
  case hnp => rfl
  case hv => first | exact ⟨_, fun _ => rfl⟩ | exact ⟨undef, fun _ => rfl⟩
  apply obl_det
  case hrun =>
    intro D y wz hW hD R hR
    have HRR := Lib.hid hR
    clear hR
    have h11 : D 11 = false := hD.post _ 11 rfl (by kernel_rfl)
    rw [h11] at hW
    have H11 := Lib.hid h11
    clear h11
    have HW := Lib.hid hW
    have h1 := HW.out.cell 1 rfl 0
    clear hW hD
    go_wp2_with fail
    refine HRR.out _ ?_
    show Bs w [(gR, .cells cur 75), (G, .cells #[.slice (some ⟨gG, 0, none⟩) m cG, .slice ab nb cb, .slice aa na ca] 75), (gG, .cells (if D 11 then (cur2.setIfInBounds lot (.int .i64 (x0 + g))) else cur2) 3)] _
    rw [H11.out]
    exact HW.out
  case hnp => rfl
  case hv => first | exact ⟨_, fun _ => rfl⟩ | exact ⟨undef, fun _ => rfl⟩
  apply obl_det
  case hrun =>
    intro D y wz hW hD R hR
    have HRR := Lib.hid hR
    clear hR
    have h11 : D 11 = false := hD.post _ 11 rfl (by kernel_rfl)
    rw [h11] at hW
    have H11 := Lib.hid h11
    clear h11
    have HW := Lib.hid hW
    clear hW hD
    go_wp2_with fail
    refine HRR.out _ ?_
    show Bs w [(gR, .cells cur 75), (G, .cells #[.slice (some ⟨gG, 0, none⟩) m cG, .slice ab nb cb, .slice aa na ca] 75), (gG, .cells (if D 11 then (cur2.setIfInBounds lot (.int .i64 (x0 + g))) else cur2) 3)] _
    rw [H11.out]
    exact HW.out
  case hnp => rfl
  case hv => first | exact ⟨_, fun _ => rfl⟩ | exact ⟨undef, fun _ => rfl⟩
  apply obl_det
  case hrun =>
    intro D y wz hW hD R hR
    have HRR := Lib.hid hR
    clear hR
    have h11 : D 11 = false := hD.post _ 11 rfl (by kernel_rfl)
    rw [h11] at hW
    have H11 := Lib.hid h11
    clear h11
    have HW := Lib.hid hW
    clear hW hD
    go_wp2_with fail
    refine HRR.out _ ?_
    show Bs w [(gR, .cells cur 75), (G, .cells #[.slice (some ⟨gG, 0, none⟩) m cG, .slice ab nb cb, .slice aa na ca] 75), (gG, .cells (if D 11 then (cur2.setIfInBounds lot (.int .i64 (x0 + g))) else cur2) 3)] _
    rw [H11.out]
    exact HW.out
  case hnp => rfl
  case hv => first | exact ⟨_, fun _ => rfl⟩ | exact ⟨undef, fun _ => rfl⟩
  apply obl_det
  case hrun =>
    intro D y wz hW hD R hR
    have HRR := Lib.hid hR
    clear hR
    have h11 : D 11 = false := hD.post _ 11 rfl (by kernel_rfl)
    rw [h11] at hW
    have H11 := Lib.hid h11
    clear h11
    have HW := Lib.hid hW
    have h1 := (HW.out.cell 2 rfl lot).trans HCL.out
    clear hW hD
    go_wp2_with fail
    refine HRR.out _ ?_
    show Bs w [(gR, .cells cur 75), (G, .cells #[.slice (some ⟨gG, 0, none⟩) m cG, .slice ab nb cb, .slice aa na ca] 75), (gG, .cells (if D 11 then (cur2.setIfInBounds lot (.int .i64 (x0 + g))) else cur2) 3)] _
    rw [H11.out]
    exact HW.out
  case hnp => rfl
  case hv => first | exact ⟨_, fun _ => rfl⟩ | exact ⟨undef, fun _ => rfl⟩
  apply obl_det
  case hrun =>
    intro D y wz hW hD R hR
    have HRR := Lib.hid hR
    clear hR
    have h11 : D 11 = false := hD.post _ 11 rfl (by kernel_rfl)
    rw [h11] at hW
    have H11 := Lib.hid h11
    clear h11
    have HW := Lib.hid hW
    clear hW hD
    go_wp2_with fail
    refine HRR.out _ ?_
    show Bs w [(gR, .cells cur 75), (G, .cells #[.slice (some ⟨gG, 0, none⟩) m cG, .slice ab nb cb, .slice aa na ca] 75), (gG, .cells (if D 11 then (cur2.setIfInBounds lot (.int .i64 (x0 + g))) else cur2) 3)] _
    rw [H11.out]
    exact HW.out
  case hnp => rfl
  case hv => first | exact ⟨_, fun _ => rfl⟩ | exact ⟨undef, fun _ => rfl⟩
  apply obl_det
  case hrun =>
    intro D y wz hW hD R hR
    have HRR := Lib.hid hR
    clear hR
    have h11 : D 11 = false := hD.post _ 11 rfl (by kernel_rfl)
    rw [h11] at hW
    have H11 := Lib.hid h11
    clear h11
    have HW := Lib.hid hW
    have hgb := HGB.out
    clear hW hD
    go_wp2_with fail
    refine HRR.out _ ?_
    show Bs w [(gR, .cells cur 75), (G, .cells #[.slice (some ⟨gG, 0, none⟩) m cG, .slice ab nb cb, .slice aa na ca] 75), (gG, .cells (if D 11 then (cur2.setIfInBounds lot (.int .i64 (x0 + g))) else cur2) 3)] _
    rw [H11.out]
    exact HW.out
  case hnp => rfl
  case hv => first | exact ⟨_, fun _ => rfl⟩ | exact ⟨undef, fun _ => rfl⟩
  apply obl_det
  case hrun =>
    intro D y wz hW hD R hR
    have HRR := Lib.hid hR
    clear hR
    have h11 : D 11 = false := hD.post _ 11 rfl (by kernel_rfl)
    rw [h11] at hW
    have H11 := Lib.hid h11
    clear h11
    have HW := Lib.hid hW
    clear hW hD
    go_wp2_with fail
    refine HRR.out _ ?_
    show Bs w [(gR, .cells cur 75), (G, .cells #[.slice (some ⟨gG, 0, none⟩) m cG, .slice ab nb cb, .slice aa na ca] 75), (gG, .cells (if D 11 then (cur2.setIfInBounds lot (.int .i64 (x0 + g))) else cur2) 3)] _
    rw [H11.out]
    exact HW.out
  case hnp => rfl
  case hv => first | exact ⟨_, fun _ => rfl⟩ | exact ⟨undef, fun _ => rfl⟩
  apply obl_det
  case hrun =>
    intro D y wz hW hD R hR
    have HRR := Lib.hid hR
    clear hR
    have h11 : D 11 = false := hD.not
    rw [h11] at hW
    have HW := Lib.hid hW
    clear hW hD h11
    refine wpList_cell_bs rfl 3 _ _ rfl HW.out 2 gG lot _ 3 rfl rfl _ rfl hls rfl info3 ?_
    intro w6 hC6
    simp only [Act.put]
    go_simp
    exact HRR.out _ hC6
  case hnp => rfl
  case hv => first | exact ⟨_, fun _ => rfl⟩ | exact ⟨undef, fun _ => rfl⟩
  apply obl_nil
  intro D y w8 hall hW
  rw [hall 11 (by decide)] at hW
  have C6 : Hid (Bs w [(gR, .cells cur 75), (G, .cells #[.slice (some ⟨gG, 0, none⟩) m cG, .slice ab nb cb, .slice aa na ca] 75), (gG, .cells (cur2.setIfInBounds lot (.int .i64 (x0 + g))) 3)] w8) := hW
  clear hall hW C5
  have ecur : cur = (cur.toList.take (L * 3) ++ cur.toList.drop (L * 3)).toArray := by rw [List.take_append_drop]
  have C7 : Hid (Bs w [(gR, .cells (cur.toList.take (L * 3) ++ cur.toList.drop (L * 3)).toArray 75), (G, .cells #[.slice (some ⟨gG, 0, none⟩) m cG, .slice ab nb cb, .slice aa na ca] 75), (gG, .cells (cur2.setIfInBounds lot (.int .i64 (x0 + g))) 3)] w8) := by
    unfold Hid
    rw [← ecur]
    exact C6.out
  have h1 := C6.out.cell 1 rfl 0
  have h2 := C6.out.cell 1 rfl 1
  have h3 := C6.out.cell 1 rfl 2
  have hpl : (cur.toList.take (L * 3)).length = L * 3 := by rw [List.length_take, Array.length_toList]; omega
  have hrl : 3 ≤ (cur.toList.drop (L * 3)).length := by rw [List.length_drop, Array.length_toList]; omega
  clear ecur
  go_wp2_with (refine wpList_store_bsmid rfl 75 _ _ rfl C7.out 0 gR (L * 3) #[.slice (some ⟨gG, 0, none⟩) m cG, .slice ab nb cb, .slice aa na ca] (cur.toList.take (L * 3)) (cur.toList.drop (L * 3)) 75 rfl hpl rfl rfl info75 hrl (by simp [Value.oneCell']) ?_; intro w9 hC9)
  go_ret
  exact ⟨_, rfl, more_read (w := w) (OL := OL) rfl hn6 hLn hlot HM.out hm6 (hC9.get 0 rfl) (by rw [HX0.out]; exact hC9.get 2 rfl) (fun j u hj hu => by rw [Array.getElem?_toList]; exact HCC.out j u hj hu) (by rw [Array.length_toList]; exact hcsz) HOB.out (fun j hj => HC2.out j _ (by omega) (HGJ.out j hj)) hC9.bel HAT.out hcR, hC9.bel⟩
end Go.Proofs.Ytaigbhhmmdfdcaa
