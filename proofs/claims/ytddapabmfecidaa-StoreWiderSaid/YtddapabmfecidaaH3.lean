/- ref.Warm: how warm it can be on each day of a way. -/
import Derived.Test.YtddapabmfecidaaH1
import Derived.Test.YtddapabmfecidaaW24
import Derived.Test.YtddapabmfecidaaP3
import Derived.Test.YtddapabmfecidaaAp
namespace Go.Proofs.Ytddapabmfecidaa
open Go.RowKit
/-- The spans of the first k days. -/
def warmL (s : Sea) (way : List Int) : Nat → List (Int × Int)
  | 0 => []
  | k + 1 => warmL s way k ++ [s.at (way.getD k 0).toNat k]
def spCells (l : List (Int × Int)) : List Value := l.flatMap fun p => [.int .i64 p.1, .int .i64 p.2]
theorem warmL_len (s : Sea) (way : List Int) : ∀ k, (warmL s way k).length = k
  | 0 => rfl
  | k + 1 => by simp [warmL, warmL_len s way k]
theorem spCells_snoc (l : List (Int × Int)) (p : Int × Int) : spCells (l ++ [p]) = spCells l ++ [.int .i64 p.1, .int .i64 p.2] := by simp [spCells]
theorem spCells_at : ∀ (l : List (Int × Int)) (i : Nat), i < l.length → (spCells l)[i * 2]? = some (.int .i64 (l.getD i (0, 0)).1) ∧ (spCells l)[i * 2 + 1]? = some (.int .i64 (l.getD i (0, 0)).2)
  | [], i, h => by simp at h
  | p :: l, 0, _ => by simp [spCells]
  | p :: l, i + 1, h => by
    have := spCells_at l i (by simpa using h)
    have e : spCells (p :: l) = .int .i64 p.1 :: .int .i64 p.2 :: spCells l := rfl
    rw [e, show (i + 1) * 2 = i * 2 + 1 + 1 by omega]
    simpa using this
theorem ownsRow_spans {w : World} {base : Nat} {v : Value} {l : List (Int × Int)} (h : w.ownsRow base 53 2 v l.length (spCells l)) (hl : l.length ≤ 1000) : SpansIn w.heap.size w v l := by
  obtain ⟨_, h⟩ := h
  rcases h with ⟨rfl, h0⟩ | ⟨g, cap, cur, rfl, hb, hg, hn, hm, hc, ht⟩
  · have : l = [] := List.eq_nil_of_length_eq_zero h0
    subst this
    exact ⟨none, 0, rfl, by simp, by simp, .inl rfl⟩
  · have each : ∀ j u, j < l.length * 2 → (spCells l)[j]? = some u → w.cell? ⟨g, 0 + j, none⟩ = some u := by
      intro j u hj hu
      rw [cell_of_row w g _ _ _ _ hg, Nat.zero_add]
      have e : (cur.toList.take (l.length * 2))[j]? = (spCells l)[j]? := by rw [ht]
      rw [List.getElem?_take, if_pos hj] at e
      rw [← Array.getElem?_toList, e, hu]
    refine ⟨_, cap, rfl, by omega, hn, .inr ⟨g, 0, rfl, block_lt hg, fun i hi => ⟨each _ _ (by omega) (spCells_at l i hi).1, ?_⟩⟩⟩
    have := each (i * 2 + 1) _ (by omega) (spCells_at l i hi).2
    rwa [← Nat.add_assoc] at this
theorem cell_two_new (w : World) (x y : Value) (t : TypeId) : ∀ j u, [x, y][j]? = some u → (w.alloc (.cells #[x, y] t)).cell? ((⟨w.heap.size, 0, none⟩ : Addr).add j) = some u := by
  intro j u hj
  match j, hj with
  | 0, hj => simp at hj; subst hj; simp [Addr.add]
  | 1, hj => simp at hj; subst hj; simp [Addr.add]
theorem info53' : ∃ i, Try.prog.info? 53 = some i ∧ i.zero = some (.agg #[.int .i64 0, .int .i64 0]) ∧ i.size = 2 ∧ i.bytes = 16 := by
  obtain ⟨i, h1, h2⟩ := Option.map_eq_some_iff.1 (show (Try.prog.info? 53).map (fun i => (i.zero, i.size, i.bytes)) = some (some (.agg #[.int .i64 0, .int .i64 0]), 2, 16) by kernel_rfl)
  simp only [Prod.mk.injEq] at h2
  exact ⟨i, h1, h2⟩
set_option maxRecDepth 100000 in
set_option maxHeartbeats 4000000 in
theorem warm_any (s : Sea) (hg : Good s) (vs wv : Value) (way : List Int) (hl : way.length ≤ s.len) (hwi : WayIn s way) (w : World) (hv : StosIn w.heap.size w vs s.stores) (hw : IntsIn .i64 w.heap.size w wv way) :
    Calls Try.prog 25 #[.agg #[.int .i64 s.bend, .int .i64 s.days, .int .i64 s.jump, .int .i64 s.times, .int .i64 s.move, vs], wv] w
      fun e w' => ∃ v, e = .returned v ∧ SpansIn w'.heap.size w' v (warmL s way way.length) ∧ Below w.heap.size w w' := by
  have HV := Lib.hid hv
  have HWV := Lib.hid hw
  obtain ⟨aw, cw, rfl, hwl, -⟩ := hw
  have HWI := Lib.hid hwi
  have HG := Lib.hid hg
  have hl8 := hg.len.2
  have hs3 := hg.stores
  clear hwi hg hv
  obtain ⟨n, hn⟩ : ∃ n, way.length = n := ⟨_, rfl⟩
  have HN := Lib.hid hn
  rw [hn] at hl hwl HWV ⊢
  clear hn
  have R0 : Hid ((w.alloc (.cells #[.int .i64 s.bend, .int .i64 s.days, .int .i64 s.jump, .int .i64 s.times, .int .i64 s.move, vs] 31)).heap[w.heap.size]? = some (.cells #[.int .i64 s.bend, .int .i64 s.days, .int .i64 s.jump, .int .i64 s.times, .int .i64 s.move, vs] 31)) := heap_alloc_new _ _
  have C0 : Hid (Below w.heap.size w (w.alloc (.cells #[.int .i64 s.bend, .int .i64 s.days, .int .i64 s.jump, .int .i64 s.times, .int .i64 s.move, vs] 31))) := (Below.refl _ _).alloc (Nat.le_refl _) _
  go_enter Try.func25, Try.ntmps25
  go_wp2_with fail
  go_loopw [5, 6] (fun lv kv wr => ∃ (k : Nat) (av : Option Addr) (cv : Nat), kv = .int .i64 k ∧ k ≤ n ∧ lv = .slice av k cv ∧ wr.ownsRow (w.heap.size + 1) 53 2 (.slice av k cv) k (spCells (warmL s way k)) ∧ wr.heap[w.heap.size]? = some (.cells #[.int .i64 s.bend, .int .i64 s.days, .int .i64 s.jump, .int .i64 s.times, .int .i64 s.move, vs] 31) ∧ Below w.heap.size w wr) (fun _ kv _ => n - (intOf kv).toNat)
  case atStart => exact ⟨0, none, 0, rfl, by omega, rfl, ⟨rfl, .inl ⟨rfl, rfl⟩⟩, R0.out, C0.out⟩
  case round =>
    obtain ⟨k, av, cv, rfl, hk, rfl, ho, hr0, hb⟩ := hrel
    have RR := Lib.hid hr0
    have CB := Lib.hid hb
    have HO := Lib.hid ho
    clear hr0 hb ho
    by_cases hlt : k < n
    · have hxr := HWI.out k (by have := (HN.out : way.length = n); omega)
      obtain ⟨x, hx⟩ : ∃ x : Nat, way.getD k 0 = x := ⟨(way.getD k 0).toNat, by omega⟩
      have hx3 : x < s.stores.length := by omega
      obtain ⟨aw', cw', hvv, -, hcc⟩ := HWV.out.below CB.out
      simp only [Value.slice.injEq] at hvv
      obtain ⟨rfl, -, rfl⟩ := hvv
      obtain ⟨bw, ow, rfl, hbw, hcw⟩ := hcc.resolve_left (by intro h; have := (HN.out : way.length = n); rw [h] at this; simp at this; omega)
      have hwk := hcw k (by have := (HN.out : way.length = n); omega)
      rw [hx] at hwk
      obtain ⟨bs, os, cs', rfl, hsc, hbs, -, -, -, vm, hvm, hsm⟩ := (HV.out.below CB.out).at hx3
      obtain ⟨bm, om, cm, rfl, hmc, hbm, hm1, hm2⟩ := hsm.at (i := k) (by rw [HG.out.lens x hx3]; omega)
      have HAT : Hid (s.at x k = (s.stores.getD x default).warm.getD k (0, 0)) := rfl
      rw [← HAT.out] at hm1 hm2
      have HW1 : Hid (spCells (warmL s way (k + 1)) = spCells (warmL s way k) ++ [.int .i64 (s.at x k).1, .int .i64 (s.at x k).2]) := by
        unfold Hid; rw [warmL, spCells_snoc, hx]; rfl
      have hml : (s.stores.getD x default).warm.length = s.len := HG.out.lens x hx3
      rw [hml]  at hvm hmc
      clear hxr hcc hcw hx hsm hml
      generalize hsa : s.at x k = p at *
      obtain ⟨lo, hi⟩ := p
      simp only at hm1 hm2 HW1
      have cs := fun i => cell_of_row wr _ i _ _ _ RR.out
      have hkl : k < s.len := by omega
      generalize hsl : s.stores.length = sl at *
      generalize hsn : s.len = len at *
      clear hsl hsn
      go_upto_region 5 with fail
      refine wp_region_inv1 (by kernel_rfl) (by kernel_rfl) [27, 5] (fun D y w' => AppW wr (w.heap.size + 1) 53 2 (.slice av k cv) k (spCells (warmL s way k)) [.int .i64 lo, .int .i64 hi] (D 13) (D 14) (D 15) (y 5) (y 27) w') ?_ ?F ?hF ?_
      · exact AppW.start HO.out (block_lt RR.out)
      case hF =>
        intro y
        simp only [fill, List.foldl, Act.put, List.setIfInBounds_toArray, List.set]
        exact rfl
      apply obl_det
      case hrun =>
        intro D y wz hW hD R hR
        have HRR := Lib.hid hR
        clear hR
        have h15 : D 15 = false := hD.post _ 15 rfl (by kernel_rfl)
        refine wpList_mv rfl _ rfl (.slice av k cv) (hW.old h15) ?_
        have HW := Lib.hid hW
        clear hW hD
        go_wp2
        exact HRR.out _ HW.out
      case hnp => rfl
      case hv => first | exact ⟨_, fun _ => rfl⟩ | exact ⟨undef, fun _ => rfl⟩
      iterate 12
        (apply obl_det
         case hrun =>
           intro D y wz hW hD R hR
           have HRR := Lib.hid hR
           clear hR
           have HW := Lib.hid hW
           have hc2 := (cellB hW.bel).1
           clear hW hD
           go_wp2
           exact HRR.out _ HW.out
         case hnp => rfl
         case hv => first | exact ⟨_, fun _ => rfl⟩ | exact ⟨undef, fun _ => rfl⟩)
      apply obl_det
      case hrun =>
        intro D y wz hW hD R hR
        have HRR := Lib.hid hR
        clear hR
        have h13 : D 13 = false := hD.not
        have h14 : D 14 = false := hD.post _ 14 rfl (by kernel_rfl)
        rw [h13, h14] at hW
        obtain ⟨hsz, hW2⟩ := hW.laid
        have HS := Lib.hid hsz
        have HW := Lib.hid hW2
        have H14 := Lib.hid h14
        clear hW hW2 hD hsz h13 h14
        go_wp2
        rw [HS.out]
        refine HRR.out _ ?_
        show AppW wr (w.heap.size + 1) 53 2 (.slice av k cv) k _ [.int .i64 lo, .int .i64 hi] true (D 14) (D 15) (y 5) (y 27) _
        rw [H14.out]
        exact HW.out
      case hnp => rfl
      case hv => first | exact ⟨_, fun _ => rfl⟩ | exact ⟨undef, fun _ => rfl⟩
      apply obl_priv 27
      case hd => rfl
      case hp => rfl
      case hrun =>
        intro D y wz hW hD R hR
        have HRR := Lib.hid hR
        clear hR
        have h14 : D 14 = false := hD.not
        have h13 : D 13 = true := hD.pre _ 13 rfl (by kernel_rfl)
        have h15 : D 15 = false := hD.post _ 15 rfl (by kernel_rfl)
        rw [h13, h14] at hW
        have HW := Lib.hid hW
        obtain ⟨ho, -, hb⟩ := hW.row rfl
        have hbase := hW.hb
        have hsz := hW.bel.size
        clear hW hD
        obtain ⟨i0, hi0, hz0, hz1, hz2⟩ := info53'
        refine wpList_append_own _ rfl _ _ 50 rfl (w.heap.size + 1) 53 i0 (.agg #[.int .i64 0, .int .i64 0]) 2 16 Try.underlying50 hi0 hz0 hz1 hz2 rfl (by decide) _ _ _ rfl ho ⟨wr.heap.size, 0, none⟩ 1 1 [.int .i64 lo, .int .i64 hi] rfl rfl (cell_news _ _ _ _ (hb rfl)) (fun x hx => by simp at hx; rcases hx with rfl | rfl <;> rfl) (by unfold maxLen; omega) (by omega) (by omega) ?_
        intro v' w12 hown12 hgrow12 _
        have HW2 := Lib.hid (HW.out.got h15 hown12 hgrow12)
        go_wp2
        refine HRR.out v' _ ?_
        show AppW wr (w.heap.size + 1) 53 2 (.slice av k cv) k _ [.int .i64 lo, .int .i64 hi] (D 13) true (D 15) (y 5) v' _
        rw [h13]
        exact HW2.out
      apply obl_priv 5
      case hd => rfl
      case hp => rfl
      case hrun =>
        intro D y wz hW hD R hR
        have HRR := Lib.hid hR
        clear hR
        have h14 : D 14 = true := hD.pre _ 14 rfl (by kernel_rfl)
        have HW := Lib.hid hW
        have H14 := Lib.hid h14
        clear hW hD h14
        go_wp2
        refine HRR.out _ _ ?_
        show AppW wr (w.heap.size + 1) 53 2 (.slice av k cv) k _ [.int .i64 lo, .int .i64 hi] (D 13) (D 14) true (y 27) (y 27) _
        have h := HW.out
        rw [H14.out] at h ⊢
        exact h.assigned
      apply obl_nil
      intro D y w8 hall hW
      have h14 := hall 14 (by decide)
      have h15 := hall 15 (by decide)
      rw [h14, h15] at hW
      have hy := hW.put rfl
      have ho8 := hW.new rfl
      have C8 := Lib.hid hW.bel
      clear hW hall
      rw [hy]
      obtain ⟨yv, hyv⟩ : ∃ yv, y 27 = yv := ⟨_, rfl⟩
      rw [hyv] at ho8 ⊢
      obtain ⟨av', cv', rfl⟩ : ∃ a c, yv = .slice a (k + 1) c := by
        rcases ho8.2 with ⟨-, h0⟩ | ⟨g, cap, cur, rfl, -⟩
        · omega
        · exact ⟨_, _, rfl⟩
      have HO8 := Lib.hid ho8
      have RR8 := Lib.hid ((C8.out.block _ (by omega)).trans RR.out)
      have CB8 := Lib.hid (CB.out.trans (C8.out.mono (by omega)))
      clear hy hyv ho8 C8 h14 h15
      simp only [Exit.inBlock, Exit.then]
      go_wp2_with fail
      refine ⟨⟨k + 1, av', cv', by push_cast; rfl, by omega, rfl, by rw [HW1.out]; exact HO8.out, RR8.out, CB8.out⟩, ?_⟩
      simp [intOf]
      omega
    · obtain rfl : k = n := by omega
      go_wp2_with fail
      go_ret
      have ho : wr.ownsRow (w.heap.size + 1) 53 2 (.slice av k cv) (warmL s way k).length (spCells (warmL s way k)) := by rw [warmL_len]; exact HO.out
      exact ⟨_, rfl, ownsRow_spans ho (by rw [warmL_len]; omega), CB.out⟩
end Go.Proofs.Ytddapabmfecidaa
