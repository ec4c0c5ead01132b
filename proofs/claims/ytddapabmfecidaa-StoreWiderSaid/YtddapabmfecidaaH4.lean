/- Truth: any truth of a way, by turns. -/
import Derived.Test.YtddapabmfecidaaH3
import Derived.Test.YtddapabmfecidaaW21
namespace Go.Proofs.Ytddapabmfecidaa
open Go.RowKit
/-- The first k days of the truth that ys draws. -/
def truthL (s : Sea) (way ys : List Int) : Nat → List Int
  | 0 => []
  | k + 1 => truthL s way ys k ++ [(s.at (way.getD k 0).toNat k).1 + turnV ys k % ((s.at (way.getD k 0).toNat k).2 - (s.at (way.getD k 0).toNat k).1 + 1)]
theorem truthL_len (s : Sea) (way ys : List Int) : ∀ k, (truthL s way ys k).length = k
  | 0 => rfl
  | k + 1 => by simp [truthL, truthL_len s way ys k]
theorem warmL_at (s : Sea) (way : List Int) : ∀ n k, k < n → (warmL s way n).getD k (0, 0) = s.at (way.getD k 0).toNat k
  | 0, k, h => by omega
  | n + 1, k, h => by
    rw [warmL, List.getD_eq_getElem?_getD]
    by_cases hk : k < n
    · rw [List.getElem?_append_left (by rw [warmL_len]; exact hk), ← List.getD_eq_getElem?_getD]; exact warmL_at s way n k hk
    · obtain rfl : k = n := by omega
      rw [List.getElem?_append_right (by rw [warmL_len]; omega), warmL_len, Nat.sub_self]; rfl
theorem turnV_bound (l : List Int) (n : Nat) (hr : ∀ x ∈ l, 0 ≤ x ∧ x ≤ 65535) : 0 ≤ turnV l n ∧ turnV l n ≤ 65535 := by
  unfold turnV
  split
  · omega
  · have hil : n % l.length < l.length := Nat.mod_lt _ (by omega)
    exact hr _ (by rw [List.getD_eq_getElem?_getD, List.getElem?_eq_getElem hil]; exact List.getElem_mem hil)
set_option maxRecDepth 100000 in
set_option maxHeartbeats 4000000 in
theorem truth_any (s : Sea) (hg : Good s) (vs wv yv : Value) (way ys : List Int) (hl : way.length ≤ s.len) (hwi : WayIn s way) (hys : ∀ x ∈ ys, 0 ≤ x ∧ x ≤ 65535) (w : World) (hv : StosIn w.heap.size w vs s.stores) (hw : IntsIn .i64 w.heap.size w wv way) (hy : IntsIn .u16 w.heap.size w yv ys) :
    Calls Try.prog 22 #[.agg #[.int .i64 s.bend, .int .i64 s.days, .int .i64 s.jump, .int .i64 s.times, .int .i64 s.move, vs], wv, yv] w
      fun e w' => ∃ v, e = .returned v ∧ IntsIn .i64 w'.heap.size w' v (truthL s way ys way.length) ∧ CapOk v way.length ∧ Below w.heap.size w w' := by
  have HV := Lib.hid hv
  have HWV := Lib.hid hw
  have HY := Lib.hid hy
  have HYS := Lib.hid hys
  have HWI := Lib.hid hwi
  have HG := Lib.hid hg
  have HLW := Lib.hid hl
  have hl8 := hg.len.2
  clear hwi hg hv hw hy hys
  obtain ⟨n, hn⟩ : ∃ n, way.length = n := ⟨_, rfl⟩
  have HN := Lib.hid hn
  rw [hn] at hl ⊢
  clear hn
  have R0 : Hid ((w.alloc (.cells #[.int .i64 s.bend, .int .i64 s.days, .int .i64 s.jump, .int .i64 s.times, .int .i64 s.move, vs] 31)).heap[w.heap.size]? = some (.cells #[.int .i64 s.bend, .int .i64 s.days, .int .i64 s.jump, .int .i64 s.times, .int .i64 s.move, vs] 31)) := heap_alloc_new _ _
  have C0 : Hid (Below w.heap.size w (w.alloc (.cells #[.int .i64 s.bend, .int .i64 s.days, .int .i64 s.jump, .int .i64 s.times, .int .i64 s.move, vs] 31))) := (Below.refl _ _).alloc (Nat.le_refl _) _
  go_enter Try.func22, Try.ntmps22
  go_upto_region 1 with fail
  have cs := fun i => cell_of_row (w.alloc (.cells #[.int .i64 s.bend, .int .i64 s.days, .int .i64 s.jump, .int .i64 s.times, .int .i64 s.move, vs] 31)) _ i _ _ _ R0.out
  go_wp2_with fail
  clear cs
  refine (warm_any s HG.out vs wv way HLW.out HWI.out _ ((HV.out.below C0.out).mono C0.out.size) ((HWV.out.below C0.out).mono C0.out.size)).mono ?_
  rintro e w1 ⟨lv, rfl, hsp, hbw⟩
  have C1 := Lib.hid (C0.out.trans (hbw.mono C0.out.size))
  have HSP := Lib.hid hsp
  obtain ⟨al, cl, rfl, -, hlcl, -⟩ := hsp
  rw [warmL_len, (HN.out : way.length = n)] at HSP hlcl ⊢
  clear hbw C0 R0
  go_wp2_with fail
  go_loopw [8, 9] (fun lv kv wr => ∃ (k : Nat) (av : Option Addr) (cv : Nat), kv = .int .i64 k ∧ k ≤ n ∧ lv = .slice av k cv ∧ wr.ownsRow w1.heap.size 3 1 (.slice av k cv) k ((truthL s way ys k).map (Value.int .i64)) ∧ Below w1.heap.size w1 wr) (fun _ kv _ => n - (intOf kv).toNat)
  case atStart => exact ⟨0, none, 0, rfl, by omega, rfl, ⟨rfl, .inl ⟨rfl, rfl⟩⟩, Below.refl _ _⟩
  case round =>
    obtain ⟨k, av, cv, rfl, hk, rfl, ho, hb⟩ := hrel
    have CB := Lib.hid hb
    have HO := Lib.hid ho
    clear hb ho
    by_cases hlt : k < n
    · have HAT : Hid ((warmL s way n).getD k (0, 0) = s.at (way.getD k 0).toNat k) := warmL_at s way n k hlt
      have hok := at_ok HG.out HLW.out HWI.out (k := k) (by have := (HN.out : way.length = n); omega)
      have HT1 : Hid (truthL s way ys (k + 1) = truthL s way ys k ++ [(s.at (way.getD k 0).toNat k).1 + turnV ys k % ((s.at (way.getD k 0).toNat k).2 - (s.at (way.getD k 0).toNat k).1 + 1)]) := rfl
      obtain ⟨bm, om, cm, hsl, hmc, hbm, hm1, hm2⟩ := ((HSP.out).below CB.out).at (i := k) (by rw [warmL_len]; exact hlt)
      rw [warmL_len] at hsl hmc
      simp only [Value.slice.injEq] at hsl
      obtain ⟨rfl, -, rfl⟩ := hsl
      rw [HAT.out] at hm1 hm2
      clear HAT
      generalize s.at (way.getD k 0).toNat k = p at *
      obtain ⟨lo, hi⟩ := p
      simp only at hm1 hm2 hok HT1
      obtain ⟨hlo0, hlohi, hhi60⟩ := hok
      have hfb := turnV_bound ys k HYS.out
      have HTV : Hid (turnV ys k = turnV ys k) := rfl
      obtain ⟨f, hf⟩ : ∃ f, turnV ys k = f := ⟨_, rfl⟩
      rw [hf] at hfb HT1
      have HF := Lib.hid hf
      clear hf HTV
      have hm0 : 0 ≤ f % (hi - lo + 1) := Int.emod_nonneg f (by omega)
      have hm3 : f % (hi - lo + 1) < hi - lo + 1 := Int.emod_lt_of_pos f (by omega)
      have hz : ((hi - lo + 1 : Int) == 0) = false := beq_eq_false_iff_ne.2 (by omega)
      have hb1 : w1.heap.size ≤ wr.heap.size := CB.out.size
      go_upto_region 6 with fail
      refine wp_region_inv1 (by kernel_rfl) (by kernel_rfl) [43, 8] (fun D y w' => AppW wr w1.heap.size 3 1 (.slice av k cv) k ((truthL s way ys k).map (Value.int .i64)) [.int .i64 (lo + f % (hi - lo + 1))] (D 23) (D 24) (D 25) (y 8) (y 43) w') ?_ ?F ?hF ?_
      · exact AppW.start HO.out hb1
      case hF =>
        intro y
        simp only [fill, List.foldl, Act.put, List.setIfInBounds_toArray, List.set]
        exact rfl
      apply obl_det
      case hrun =>
        intro D y wz hW hD R hR
        have HRR := Lib.hid hR
        clear hR
        have h15 : D 25 = false := hD.post _ 25 rfl (by kernel_rfl)
        refine wpList_mv rfl _ rfl (.slice av k cv) (hW.old h15) ?_
        have HW := Lib.hid hW
        clear hW hD
        go_wp2
        exact HRR.out _ HW.out
      case hnp => rfl
      case hv => first | exact ⟨_, fun _ => rfl⟩ | exact ⟨undef, fun _ => rfl⟩
      iterate 7
        (apply obl_det
         case hrun =>
           intro D y wz hW hD R hR
           have HRR := Lib.hid hR
           clear hR
           have HW := Lib.hid hW
           have hc2 := (cellB hW.bel).1
           clear hW hD
           go_wp2
           exact HRR.out _ HW.out
         case hnp => rfl
         case hv => first | exact ⟨_, fun _ => rfl⟩ | exact ⟨undef, fun _ => rfl⟩)
      apply obl_det
      case hrun =>
        intro D y wz hW hD R hR
        have HRR := Lib.hid hR
        clear hR
        have HW := Lib.hid hW
        have CZ := Lib.hid (C1.out.trans ((CB.out.trans hW.bel).mono C1.out.size))
        clear hW hD
        have hc := turn_any ys yv k (by omega) HYS.out wz ((HY.out.below CZ.out).mono CZ.out.size)
        rw [HF.out] at hc
        go_wp2_with fail
        refine hc.mono ?_
        rintro e w' ⟨rfl, rfl⟩
        go_wp2_with fail
        exact HRR.out _ HW.out
      case hnp => rfl
      case hv => first | exact ⟨_, fun _ => rfl⟩ | exact ⟨undef, fun _ => rfl⟩
      iterate 14
        (apply obl_det
         case hrun =>
           intro D y wz hW hD R hR
           have HRR := Lib.hid hR
           clear hR
           have HW := Lib.hid hW
           have hc2 := (cellB hW.bel).1
           clear hW hD
           go_wp2
           exact HRR.out _ HW.out
         case hnp => rfl
         case hv => first | exact ⟨_, fun _ => rfl⟩ | exact ⟨undef, fun _ => rfl⟩)
      apply obl_det
      case hrun =>
        intro D y wz hW hD R hR
        have HRR := Lib.hid hR
        clear hR
        have h13 : D 23 = false := hD.not
        have h14 : D 24 = false := hD.post _ 24 rfl (by kernel_rfl)
        rw [h13, h14] at hW
        obtain ⟨hsz, hW2⟩ := hW.laid
        have HS := Lib.hid hsz
        have HW := Lib.hid hW2
        have H14 := Lib.hid h14
        clear hW hW2 hD hsz h13 h14
        go_wp2
        rw [HS.out]
        refine HRR.out _ ?_
        show AppW wr w1.heap.size 3 1 (.slice av k cv) k ((truthL s way ys k).map (Value.int .i64)) [.int .i64 (lo + f % (hi - lo + 1))] true (D 24) (D 25) (y 8) (y 43) _
        rw [H14.out]
        exact HW.out
      case hnp => rfl
      case hv => first | exact ⟨_, fun _ => rfl⟩ | exact ⟨undef, fun _ => rfl⟩
      apply obl_priv 43
      case hd => rfl
      case hp => rfl
      case hrun =>
        intro D y wz hW hD R hR
        have HRR := Lib.hid hR
        clear hR
        have h14 : D 24 = false := hD.not
        have h13 : D 23 = true := hD.pre _ 23 rfl (by kernel_rfl)
        have h15 : D 25 = false := hD.post _ 25 rfl (by kernel_rfl)
        rw [h13, h14] at hW
        have HW := Lib.hid hW
        obtain ⟨ho, -, hb⟩ := hW.row rfl
        have hbase := hW.hb
        have hsz := hW.bel.size
        clear hW hD
        obtain ⟨i0, hi0, hz0, hz1, hz2⟩ := i64info
        refine wpList_append_own _ rfl _ _ 33 rfl w1.heap.size 3 i0 (.int .i64 0) 1 8 Try.underlying33 hi0 hz0 hz1 hz2 rfl (by decide) _ _ _ rfl ho ⟨wr.heap.size, 0, none⟩ 1 1 [.int .i64 (lo + f % (hi - lo + 1))] rfl rfl (cell_news _ _ _ _ (hb rfl)) (fun x hx => by simp at hx; subst hx; rfl) (by unfold maxLen; omega) (by omega) (by omega) ?_
        intro v' w12 hown12 hgrow12 _
        have HW2 := Lib.hid (HW.out.got h15 hown12 hgrow12)
        go_wp2
        refine HRR.out v' _ ?_
        show AppW wr w1.heap.size 3 1 (.slice av k cv) k ((truthL s way ys k).map (Value.int .i64)) [.int .i64 (lo + f % (hi - lo + 1))] (D 23) true (D 25) (y 8) v' _
        rw [h13]
        exact HW2.out
      apply obl_priv 8
      case hd => rfl
      case hp => rfl
      case hrun =>
        intro D y wz hW hD R hR
        have HRR := Lib.hid hR
        clear hR
        have h14 : D 24 = true := hD.pre _ 24 rfl (by kernel_rfl)
        have HW := Lib.hid hW
        have H14 := Lib.hid h14
        clear hW hD h14
        go_wp2
        refine HRR.out _ _ ?_
        show AppW wr w1.heap.size 3 1 (.slice av k cv) k ((truthL s way ys k).map (Value.int .i64)) [.int .i64 (lo + f % (hi - lo + 1))] (D 23) (D 24) true (y 43) (y 43) _
        have h := HW.out
        rw [H14.out] at h ⊢
        exact h.assigned
      apply obl_nil
      intro D y w8 hall hW
      have h14 := hall 24 (by decide)
      have h15 := hall 25 (by decide)
      rw [h14, h15] at hW
      have hy := hW.put rfl
      have ho8 := hW.new rfl
      have C8 := Lib.hid hW.bel
      clear hW hall
      rw [hy]
      obtain ⟨yv, hyv⟩ : ∃ yv, y 43 = yv := ⟨_, rfl⟩
      rw [hyv] at ho8 ⊢
      obtain ⟨av', cv', rfl⟩ := ownsRow_slice1 ho8
      have HO8 := Lib.hid ho8
      clear hy hyv ho8 h14 h15
      have CB8 := Lib.hid (CB.out.trans C8.out)
      clear C8
      simp only [Exit.inBlock, Exit.then]
      go_wp2_with fail
      refine ⟨⟨k + 1, av', cv', by push_cast; rfl, by omega, rfl, by rw [HT1.out, List.map_append]; exact HO8.out, CB8.out⟩, ?_⟩
      simp [intOf]
      omega
    · obtain rfl : k = n := by omega
      go_wp2_with fail
      go_ret
      have ho : wr.ownsRow w1.heap.size 3 1 (.slice av k cv) (truthL s way ys k).length ((truthL s way ys k).map (Value.int .i64)) := by rw [truthL_len]; exact HO.out
      have hoi := ownsRow_ints ho (by rw [truthL_len]; omega)
      rw [truthL_len] at hoi
      exact ⟨_, rfl, hoi.1, hoi.2, C1.out.trans (CB.out.mono C1.out.size)⟩
end Go.Proofs.Ytddapabmfecidaa
