/- StoreBack: the walk. -/
import Derived.Test.YtddapabmfecidaaAW
import Derived.Test.YtddapabmfecidaaP8
import Derived.Test.YtddapabmfecidaaSt
namespace Go.Proofs.Ytddapabmfecidaa
open Go.RowKit
/-- The worlds of a region that puts a span ahead of the list of the store in block bx. -/
structure PrW (wr wu : World) (bx : Nat) (nm : ByteArray) (rent : Int) (xv : Value) (lo hi : Int) (d : Nat) (old : List Value) (d9 d12 d14 : Bool) (y84 y87 : Value) (w' : World) : Prop where
  bel : Below bx wr w'
  sz : wu.heap.size ≤ w'.heap.size
  kp : d14 = false → Below wu.heap.size wu w'
  x : w'.heap[bx]? = some (.cells #[.string nm, .int .i64 rent, if d14 then y87 else xv] 66)
  fr : d12 = false → d9 = true → ∃ g, y84 = .slice (some ⟨g, 0, none⟩) 1 1 ∧ wu.heap.size ≤ g ∧ w'.heap[g]? = some (.cells #[.int .i64 lo, .int .i64 hi] 53)
  new : d12 = true → w'.ownsRow (bx + 1) 53 2 y87 (d + 1) ([.int .i64 lo, .int .i64 hi] ++ old)
  c : d14 = true → d12 = true
set_option maxRecDepth 100000 in
set_option maxHeartbeats 4000000 in
theorem back_law (s : Sea) (vs wv : Value) (way : List Int) (w : World) (hv : StosIn w.heap.size w vs s.stores) (hw : IntsIn .i64 w.heap.size w wv way) :
    Calls Try.prog 10 #[.agg #[.int .i64 s.bend, .int .i64 s.days, .int .i64 s.jump, .int .i64 s.times, .int .i64 s.move, vs], wv] w (fun e w' => e = .returned (.bool true) ∧ Below w.heap.size w w') := by
  have HV := Lib.hid hv
  have HWV := Lib.hid hw
  obtain ⟨asl, csl, rfl, hsl, hslc, -⟩ := hv
  obtain ⟨aw, cw, rfl, hwl, -⟩ := hw
  have C0 : Hid (Below w.heap.size w (w.alloc (.cells #[.int .i64 s.bend, .int .i64 s.days, .int .i64 s.jump, .int .i64 s.times, .int .i64 s.move, .slice asl s.stores.length csl] 31))) := (Below.refl _ _).alloc (Nat.le_refl _) _
  have R0 : Hid ((w.alloc (.cells #[.int .i64 s.bend, .int .i64 s.days, .int .i64 s.jump, .int .i64 s.times, .int .i64 s.move, .slice asl s.stores.length csl] 31)).heap[w.heap.size]? = some (.cells #[.int .i64 s.bend, .int .i64 s.days, .int .i64 s.jump, .int .i64 s.times, .int .i64 s.move, .slice asl s.stores.length csl] 31)) := heap_alloc_new _ _
  obtain ⟨x, hx⟩ : ∃ x, riskV s way = x := ⟨_, rfl⟩
  have hxe := riskV_err s way
  have hxb := @riskV_bad s way
  rw [hx] at hxe hxb
  obtain ⟨h, j, e⟩ := x
  have HX := Lib.hid hx
  have HXE := Lib.hid hxe
  have HXB := Lib.hid hxb
  clear hx hxe hxb
  go_enter Try.func10, Try.ntmps10
  go_wp2_with fail
  refine (risks_any s _ _ way _ ((HV.out.below C0.out).mono C0.out.size) ((HWV.out.below C0.out).mono C0.out.size)).mono ?_
  rintro e' w1 ⟨rfl, hbw⟩
  have C1 := Lib.hid (C0.out.trans (hbw.mono C0.out.size))
  have R1 := Lib.hid (block_keep R0.out hbw)
  clear hbw C0 R0
  rw [HX.out]
  by_cases hz : e = 0
  · subst hz
    have he : openE s way = 0 := HXE.out.symm
    have HE := Lib.hid he
    have hoo := openE_ok he
    have HCH := Lib.hid hoo.1
    have HG := Lib.hid (good_of_ok hoo.1)
    have hwo := way_ok hoo.2
    have HWO := Lib.hid hwo
    have hsok : s.ok = true := by unfold Sea.ok; rw [hoo.1]; rfl
    have hst := HG.out.stores
    have hl8 := HG.out.len
    clear hoo hwo he
    have cs1 := fun i => cell_of_row w1 _ i _ _ _ R1.out
    go_wp2_with fail
    refine (valid_any s _ _ ((HV.out.below C1.out).mono C1.out.size) _ hsok).mono ?_
    rintro e' w2 ⟨rfl, hbw⟩
    have C2 := Lib.hid (C1.out.trans (hbw.mono C1.out.size))
    have R2 := Lib.hid (block_keep R1.out hbw)
    clear hbw C1 R1 cs1
    have cs2 := fun i => cell_of_row w2 _ i _ _ _ R2.out
    go_wp2_with fail
    refine (refDays_any s _ _ ((HV.out.below C2.out).mono C2.out.size) (by omega)).mono ?_
    rintro e' w3 ⟨rfl, hbw⟩
    have C3 := Lib.hid (C2.out.trans (hbw.mono C2.out.size))
    have R3 := Lib.hid (block_keep R2.out hbw)
    clear hbw C2 R2 cs2
    have cs3 := fun i => cell_of_row w3 _ i _ _ _ R3.out
    by_cases hnl : way.length = s.len
    · have hq : ((way.length : Int) != (s.len : Int)) = false := by rw [hnl]; simp
      have HNL := Lib.hid hnl
      clear hnl
      go_wp2_with fail
      clear hq
      rw [HNL.out] at HWV hwl ⊢
      have hbb : w.heap.size < w3.heap.size := block_lt R3.out
      have hB0 : BdW w #[.int .i64 s.bend, .int .i64 s.days, .int .i64 s.jump, .int .i64 s.times, .int .i64 s.move, .slice asl s.stores.length csl] w3.heap.size [.int .i64 s.bend, .int .i64 s.days, .int .i64 s.jump, .int .i64 s.times, .int .i64 s.move] (backS s s.len).stores (.slice none 0 0) 0 (w3.alloc (.cells #[.int .i64 s.bend, .int .i64 s.days, .int .i64 s.jump, .int .i64 s.times, .int .i64 s.move, .slice none 0 0] 31)) :=
        ⟨(Below.heap_alloc w3 _ _ (block_lt R3.out)).trans R3.out, heap_alloc_new _ _, C3.out.alloc C3.out.size _, hbb, [], rfl, ⟨rfl, .inl ⟨rfl, rfl⟩⟩, fun i hi => by omega⟩
      go_loopw [9] (fun kv wr => ∃ (k : Nat) (v : Value), kv = .int .i64 k ∧ k ≤ s.stores.length ∧ BdW w #[.int .i64 s.bend, .int .i64 s.days, .int .i64 s.jump, .int .i64 s.times, .int .i64 s.move, .slice asl s.stores.length csl] w3.heap.size [.int .i64 s.bend, .int .i64 s.days, .int .i64 s.jump, .int .i64 s.times, .int .i64 s.move] (backS s s.len).stores v k wr) (fun kv _ => s.stores.length - (intOf kv).toNat)
      case atStart => exact ⟨0, .slice none 0 0, rfl, by omega, hB0⟩
      case round =>
        obtain ⟨k, v, rfl, hk, hF⟩ := hrel
        have HF := Lib.hid hF
        have cS := fun i => cell_of_row wr _ i _ _ _ hF.rS
        clear hF hB0
        by_cases hlt : k < s.stores.length
        · obtain ⟨bs, os, cs', hvv, hsc, hbs, hc0, hc1, hnm, vm, hvm, hsm⟩ := (HV.out.below HF.out.bel).at hlt
          simp only [Value.slice.injEq] at hvv
          obtain ⟨rfl, -, rfl⟩ := hvv
          have hwl0 : (s.stores.getD k default).warm.length = s.len := HG.out.lens k hlt
          obtain ⟨am, cm, rfl, hml, hmlc, hmc⟩ := hsm
          obtain ⟨bm, om, rfl, hbm, hmc⟩ := hmc.resolve_left (by intro h; rw [h] at hwl0; simp at hwl0; omega)
          have HMC := Lib.hid hmc
          have HBK := Lib.hid (backS_get s s.len k hlt)
          have hxl := hwl0
          rw [hwl0] at hvm hmlc
          clear hmc hml hwl0
          generalize hxs : s.stores.getD k default = x at *
          obtain ⟨nm, rent, xw⟩ := x
          simp only at hc0 hc1 hnm HMC HBK hxl
          clear hxs
          go_upto_region 9 with fail
          refine wp_world (fun wq => Below wr.heap.size wr wq ∧ wq.heap[wr.heap.size]? = some (.cells #[.string nm, .int .i64 rent, .slice (some ⟨bm, om, none⟩) s.len cm] 66)) ⟨(Below.refl _ _).alloc (Nat.le_refl _) _, heap_alloc_new _ _⟩ ?_
          intro wq hwq
          have HBQ := Lib.hid hwq.1
          have HXQ := Lib.hid hwq.2
          have cx := fun i => cell_of_row wq _ i _ _ _ hwq.2
          have fx := frozen_of_row wq _ 2 _ _ hwq.2
          clear hwq
          go_upto_region 10 with fail
          refine wp_world (fun wt => Below wr.heap.size wr wt ∧ wt.heap[wr.heap.size]? = some (.cells #[.string nm, .int .i64 rent, .slice none 0 0] 66)) ⟨HBQ.out.setCell (p := ⟨wr.heap.size, 2, none⟩) (Nat.le_refl _) _, setCell_at6 HXQ.out 2 _⟩ ?_
          intro wt hwt
          have HBT := Lib.hid hwt.1
          have HXT := Lib.hid hwt.2
          have hbo : w3.heap.size < wr.heap.size := block_lt HF.out.rO
          have hws : w.heap.size < wr.heap.size := block_lt HF.out.rS
          have hbsr : bs < wr.heap.size := by omega
          have hbmr : bm < wr.heap.size := by omega
          clear hwt cx fx HXQ HBQ
          have hvm' : wt.cell? ⟨bs, os + k * 3 + 2, none⟩ = some (.slice (some ⟨bm, om, none⟩) s.len cm) := (HBT.out.cell (p := ⟨bs, os + k * 3 + 2, none⟩) hbsr).trans hvm
          have HMT : Hid (∀ i, i < s.len → wt.cell? ⟨bm, om + i * 2, none⟩ = some (.int .i64 (xw.getD i (0, 0)).1) ∧ wt.cell? ⟨bm, om + i * 2 + 1, none⟩ = some (.int .i64 (xw.getD i (0, 0)).2)) := by
            intro i hi
            have h := HMC.out i (by rw [hxl]; exact hi)
            exact ⟨(HBT.out.cell (p := ⟨bm, om + i * 2, none⟩) hbmr).trans h.1, (HBT.out.cell (p := ⟨bm, om + i * 2 + 1, none⟩) hbmr).trans h.2⟩
          have hS' : wt.heap[w.heap.size]? = some (.cells #[.int .i64 s.bend, .int .i64 s.days, .int .i64 s.jump, .int .i64 s.times, .int .i64 s.move, .slice (some ⟨bs, os, none⟩) s.stores.length csl] 31) := block_keep HF.out.rS HBT.out
          have hcS := fun i => cell_of_row wt _ i _ _ _ hS'
          obtain ⟨bx, hbx⟩ : ∃ bx, wr.heap.size = bx := ⟨_, rfl⟩
          have HBX := Lib.hid hbx
          rw [hbx] at HBT HXT hbo hws hbsr hbmr ⊢
          have hbxt : bx < wt.heap.size := block_lt HXT.out
          clear hbx hvm hc0 hc1 HMC cS hS'
          go_wp2_with fail
          go_loopw [11] (fun dv wu => ∃ (d : Nat) (xv : Value), dv = .int .i64 d ∧ d ≤ s.len ∧ Below bx wt wu ∧ wu.heap[bx]? = some (.cells #[.string nm, .int .i64 rent, xv] 66) ∧ wu.ownsRow (bx + 1) 53 2 xv d (spCells (revSp xw d)) ∧ wt.heap.size ≤ wu.heap.size) (fun dv _ => s.len - (intOf dv).toNat)
          case atStart => exact ⟨0, .slice none 0 0, rfl, by omega, Below.refl _ _, HXT.out, ⟨rfl, .inl ⟨rfl, rfl⟩⟩, Nat.le_refl _⟩
          case round =>
            obtain ⟨d, xv, rfl, hd, hb, hx, ho, hsz⟩ := hrel
            have HB := Lib.hid hb
            have HX := Lib.hid hx
            have HO := Lib.hid ho
            clear hb hx ho
            by_cases hdl : d < s.len
            · have hsp := HMT.out d hdl
              have HRV : Hid (spCells (revSp xw (d + 1)) = [.int .i64 (xw.getD d (0, 0)).1, .int .i64 (xw.getD d (0, 0)).2] ++ spCells (revSp xw d)) := rfl
              generalize xw.getD d (0, 0) = p at *
              obtain ⟨lo, hi⟩ := p
              simp only at hsp HRV
              obtain ⟨hs1, hs2⟩ := hsp
              go_upto_region 13 with fail
              refine wp_region_inv1 (by kernel_rfl) (by kernel_rfl) [84, 87] (fun D y w' => PrW wt wr bx nm rent xv lo hi d (spCells (revSp xw d)) (D 9) (D 12) (D 14) (y 84) (y 87) w') ?_ ?Fz ?hFz ?_
              · exact ⟨HB.out.drew, Nat.le_refl _, fun _ => (Below.refl _ _).drew, HX.out, fun _ h => (by cases h), fun h => (by cases h), fun h => (by cases h)⟩
              case hFz =>
                intro y
                simp only [fill, List.foldl, Act.put, List.setIfInBounds_toArray, List.set]
                exact rfl
              iterate 9
                (apply obl_det
                 case hrun =>
                   intro D y wz hW hD R hR
                   have HRR := Lib.hid hR
                   have HW := Lib.hid hW
                   have hc2 := (cellB HW.out.bel).1
                   clear hR hD hW
                   go_wp2
                   exact HRR.out _ HW.out
                 case hnp => rfl
                 case hv => first | exact ⟨_, fun _ => rfl⟩ | exact ⟨undef, fun _ => rfl⟩)
              apply obl_priv 84
              case hd => rfl
              case hp => rfl
              case hrun =>
                intro D y wz hW hD R hR
                have HRR := Lib.hid hR
                have H12 : D 12 = false := hD.post _ 12 rfl (by kernel_rfl)
                have H14 : D 14 = false := by
                  cases h : D 14
                  · rfl
                  · rw [hW.c h] at H12; cases H12
                have HW := Lib.hid hW
                clear hR hD hW
                go_wp2
                refine HRR.out _ _ ?_
                have ha : Below wz.heap.size wz (wz.alloc (.cells #[.int .i64 lo, .int .i64 hi] 53)) := (Below.refl _ _).alloc (Nat.le_refl _) _
                have hbz : bx < wz.heap.size := block_lt HW.out.x
                exact ⟨HW.out.bel.trans (ha.mono (by omega)), Nat.le_trans HW.out.sz ha.size, fun h => (HW.out.kp h).trans (ha.mono (HW.out.kp h).size), block_keep HW.out.x ha, fun _ _ => ⟨wz.heap.size, rfl, HW.out.sz, heap_alloc_new _ _⟩, fun h => ownsRow.below (HW.out.new h) ha, HW.out.c⟩
              apply obl_det
              case hrun =>
                intro D y wz hW hD R hR
                have HRR := Lib.hid hR
                have HW := Lib.hid hW
                have hc2 := (cellB HW.out.bel).1
                clear hR hD hW
                go_wp2
                exact HRR.out _ HW.out
              case hnp => rfl
              case hv => first | exact ⟨_, fun _ => rfl⟩ | exact ⟨undef, fun _ => rfl⟩
              apply obl_det
              case hrun =>
                intro D y wz hW hD R hR
                have HRR := Lib.hid hR
                have HW := Lib.hid hW
                have H12 : D 12 = false := hD.post _ 12 rfl (by kernel_rfl)
                have H14 : D 14 = false := by
                  cases h : D 14
                  · rfl
                  · rw [hW.c h] at H12; cases H12
                have hx := hW.x
                rw [H14] at hx
                have hx' : wz.heap[bx]? = some (.cells #[.string nm, .int .i64 rent, xv] 66) := hx
                have cx := fun i => cell_of_row wz _ i _ _ _ hx'
                clear hx hx' H12 H14
                clear hR hD hW
                go_wp2
                exact HRR.out _ HW.out
              case hnp => rfl
              case hv => first | exact ⟨_, fun _ => rfl⟩ | exact ⟨undef, fun _ => rfl⟩
              apply obl_priv 87
              case hd => rfl
              case hp => rfl
              case hrun =>
                intro D y wz hW hD R hR
                have HRR := Lib.hid hR
                have H9 : D 9 = true := hD.pre _ 9 rfl (by kernel_rfl)
                have H12 : D 12 = false := hD.not
                have H14 : D 14 = false := by
                  cases h : D 14
                  · rfl
                  · rw [hW.c h] at H12; cases H12
                obtain ⟨g, hy84, hgu, hgr⟩ := hW.fr H12 H9
                have hx := hW.x
                rw [H14] at hx
                have hx' : wz.heap[bx]? = some (.cells #[.string nm, .int .i64 rent, xv] 66) := hx
                have HX' := Lib.hid hx'
                have HW := Lib.hid hW
                have hkp := hW.kp H14
                have hbw : bx < wr.heap.size := by omega
                clear hR hD hW hx hx'
                have hown : wz.ownsRow (bx + 1) 53 2 (.slice (some ⟨g, 0, none⟩) 1 1) 1 [.int .i64 lo, .int .i64 hi] := ⟨rfl, .inr ⟨g, 1, _, rfl, by omega, hgr, Nat.le_refl _, by unfold maxLen; omega, rfl, rfl⟩⟩
                obtain ⟨i0, hi0, hz0, hz1, hz2⟩ := info53'
                refine wpList_append_onto rfl _ _ 50 rfl (bx + 1) 53 i0 (.agg #[.int .i64 0, .int .i64 0]) 2 16 Try.underlying50 hi0 hz0 hz1 hz2 rfl (by decide) _ 1 _ hy84 hown (by decide) xv d (spCells (revSp xw d)) rfl (SrcIn.own (ownsRow.below HO.out hkp)) (ownsRow.below HO.out hkp).1 ?_ (by unfold maxLen; omega) (by omega) (by have := block_lt HX'.out; omega) ?_
                · intro u hu
                  obtain ⟨q, -, hq⟩ := List.mem_flatMap.1 hu
                  simp at hq
                  rcases hq with rfl | rfl <;> rfl
                intro v' w12 hown12 hgrow12
                have hb1 : Below bx wz w12 := (Below.refl bx wz).grown hgrow12 (by have := block_lt HX'.out; omega) (fun q e => by simp only [Value.ownBlock, Option.some.injEq] at e; omega)
                have hb2 : Below wr.heap.size wz w12 := (Below.refl wr.heap.size wz).grown hgrow12 HW.out.sz (fun q e => by simp only [Value.ownBlock, Option.some.injEq] at e; omega)
                rw [Nat.add_comm 1 d] at hown12
                have hx12 : w12.heap[bx]? = some (.cells #[.string nm, .int .i64 rent, xv] 66) := (hgrow12.block bx (block_lt HX'.out) (fun e => by simp only [Value.ownBlock, Option.some.injEq] at e; omega)).trans HX'.out
                have HQ : Hid (PrW wt wr bx nm rent xv lo hi d (spCells (revSp xw d)) (D 9) true (D 14) (y 84) v' w12) := by
                  rw [H14]
                  exact ⟨HW.out.bel.trans hb1, Nat.le_trans HW.out.sz hb1.size, fun _ => hkp.trans hb2, hx12, fun h => (by cases h), fun _ => hown12, fun h => (by cases h)⟩
                clear hown12 hgrow12 hb1 hb2 hx12 hown hkp hy84 hgr
                go_wp2
                exact HRR.out v' w12 HQ.out
              apply obl_det
              case hrun =>
                intro D y wz hW hD R hR
                have HRR := Lib.hid hR
                have HW := Lib.hid hW
                have hc2 := (cellB HW.out.bel).1
                clear hR hD hW
                go_wp2
                exact HRR.out _ HW.out
              case hnp => rfl
              case hv => first | exact ⟨_, fun _ => rfl⟩ | exact ⟨undef, fun _ => rfl⟩
              apply obl_det
              case hrun =>
                intro D y wz hW hD R hR
                have HRR := Lib.hid hR
                have H12 : D 12 = true := hD.pre _ 12 rfl (by kernel_rfl)
                have H14 : D 14 = false := hD.not
                have hx := hW.x
                rw [H14] at hx
                have hx' : wz.heap[bx]? = some (.cells #[.string nm, .int .i64 rent, xv] 66) := hx
                have hown := hW.new H12
                have HW := Lib.hid hW
                obtain ⟨av, cv, hav⟩ := ownsRow_slice1 hown
                clear hR hD hW hx
                refine wpList_store_at rfl 50 _ _ rfl bx 2 rfl (y 87) xv rfl (by rw [hav]; rfl) (cell_of_row wz bx 2 _ _ _ hx') (frozen_of_row wz _ 2 _ _ hx') info50 ?_
                have hbz : bx < wz.heap.size := block_lt hx'
                have HQ : Hid (PrW wt wr bx nm rent xv lo hi d (spCells (revSp xw d)) (D 9) (D 12) true (y 84) (y 87) (wz.setCell ⟨bx, 2, none⟩ (y 87))) := by
                  refine ⟨HW.out.bel.setCell (p := ⟨bx, 2, none⟩) (Nat.le_refl _) _, by simpa using HW.out.sz, fun h => (by cases h), setCell_at6 hx' 2 _, fun h => (by rw [H12] at h; cases h), fun _ => ownsRow.keeps hown ((Keeps.refl wz bx).setCell 2 _) (by omega), fun _ => H12⟩
                clear hown hav hx' HW
                go_wp2
                exact HRR.out _ HQ.out
              case hnp => rfl
              case hv => first | exact ⟨_, fun _ => rfl⟩ | exact ⟨undef, fun _ => rfl⟩
              apply obl_nil
              intro D y w8 hall hW
              have H12 := hall 12 (by decide)
              have H14 := hall 14 (by decide)
              have hnew := hW.new H12
              have hx := hW.x
              rw [H14] at hx
              have HN8 := Lib.hid hnew
              have HX8 : Hid (w8.heap[bx]? = some (.cells #[.string nm, .int .i64 rent, y 87] 66)) := hx
              have HB8 := Lib.hid hW.bel
              have hsz8 : wt.heap.size ≤ w8.heap.size := Nat.le_trans hsz hW.sz
              clear hW hall hnew hx
              simp only [Exit.inBlock, Exit.then]
              go_wp2_with fail
              refine ⟨⟨d + 1, y 87, by push_cast; rfl, by omega, HB8.out, HX8.out, by rw [HRV.out]; exact HN8.out, hsz8⟩, ?_⟩
              simp [intOf]
              omega
            · obtain hdn : d = s.len := by omega
              go_upto_region 14 with fail
              obtain ⟨us, hul, hown, hsp⟩ := HF.out.own
              have hbA : Below bx _ wr := HBT.out.trans HB.out
              have hownr := ownsRow.below hown (by rw [HBX.out]; exact hbA)
              have hO := (hbA.block _ hbo).trans HF.out.rO
              have HSPW := Lib.hid hsp
              have hlt12 := World.ownsRow.lt hown
              rw [HBX.out] at hlt12
              have hltr := World.ownsRow.lt hownr
              obtain ⟨dd, rfl⟩ : ∃ dd, d = dd + 1 := ⟨d - 1, by omega⟩
              obtain ⟨ax, cx0, rfl⟩ := ownsRow_slice1 HO.out
              have co := fun i => cell_of_row wr _ i _ _ _ hO
              have cx := fun i => cell_of_row wr _ i _ _ _ HX.out
              have hsz14 : bx < wr.heap.size := block_lt HX.out
              have hsz15 : w3.heap.size + 1 ≤ wr.heap.size := by omega
              have HDN := Lib.hid hdn
              clear hown hsp hdn
              obtain ⟨i0, hi0, hz0, hz1, hz2⟩ := info66'
              go_wp2_with (at_builtin; refine wpList_append_lies _ rfl _ _ 29 rfl (w3.heap.size + 1) 66 i0 (.agg #[.string .empty, .int .i64 0, .slice none 0 0]) 3 48 Try.underlying29 hi0 hz0 hz1 hz2 rfl (by decide) _ _ _ rfl (hownr.alloc _) ⟨wr.heap.size, 0, none⟩ 1 1 [.string nm, .int .i64 rent, .slice ax (dd + 1) cx0] rfl rfl (cell_three_new _ _ _ _ _) (fun x hx => by simp at hx; rcases hx with rfl | rfl | rfl <;> rfl) (by decide) (by unfold maxLen; omega) (by omega) (by simp; omega) _ rfl ?_; intro g cap w12 hown12 hgrow12 hgg12 hgl12; have hO12 := (hgrow12.block _ (by rw [World.size_alloc]; omega) (fun e => by have := (hlt12 _ e.symm).1; omega)).trans ((Below.heap_alloc wr _ _ (by omega)).trans hO); have co12 := fun i => cell_of_row w12 _ i _ _ _ hO12; have fo12 := frozen_of_row w12 _ 5 _ _ hO12)
              have HPUSH := Lib.hid (BdW.push (us0 := us) HF.out (by rw [HBX.out]; exact hbA) rfl (by rw [backS_count]; exact hlt) (xv := .slice ax (dd + 1) cx0) (l := revSp xw s.len) (by rw [HBX.out, revSp_len, ← HDN.out]; exact HO.out) (by rw [revSp_len]; omega) (by rw [HBK.out]) (by rw [HBX.out]; exact hsz14) (by rw [HBK.out]; exact hown12) hul HSPW.out (fun q e => ⟨by rw [HBX.out]; exact (hlt12 q e).2, by have := (hlt12 q e).1; omega⟩) hgrow12 hgg12)
              clear hown12 hgrow12 hgg12 hgl12 hO12 co12 fo12
              refine ⟨⟨k + 1, _, by push_cast; rfl, by omega, HPUSH.out⟩, ?_⟩
              simp [intOf]
              omega
        · obtain hkn : s.stores.length = k := by omega
          obtain ⟨us, hul, hown, hsp⟩ := HF.out.own
          have hlf : (backS s s.len).stores.length = k := by rw [backS_count]; exact hkn
          have HOUT := Lib.hid hown
          obtain ⟨av, cv, rfl⟩ : ∃ a c, v = .slice a k c := by
            obtain ⟨k', hk'⟩ : ∃ k', k = k' + 1 := ⟨k - 1, by omega⟩
            rw [hk'] at hown ⊢
            exact ownsRow_slice1 hown
          have hnames : ∀ i, i < (backS s s.len).stores.length → ((backS s s.len).stores.getD i default).name.size ≤ 1000000000000000 := by
            intro i hi
            rw [backS_count] at hi
            obtain ⟨_, _, _, -, -, -, -, -, hnm, -⟩ := HV.out.at hi
            rw [backS_get s _ i hi]
            exact hnm
          rw [List.take_of_length_le (by omega)] at hown
          have HST := Lib.hid (ownsRow_stos' hown hlf (by omega) (by rw [hul, hlf]) (fun i hi => ⟨hnames i hi, (hsp i (by omega)).1⟩))
          have DF := Lib.hid HF.out.bel
          have RO := Lib.hid HF.out.rO
          have co := fun i => cell_of_row wr _ i _ _ _ HF.out.rO
          have HKN := Lib.hid hkn
          have hbo : w3.heap.size < wr.heap.size := block_lt HF.out.rO
          clear hown hsp hul hnames HOUT hkn
          go_wp2_with fail
          clear cS co
          go_loopw [12, 13] (fun lv kv wu => ∃ (d : Nat) (xv : Value), kv = .int .i64 d ∧ d ≤ s.len ∧ lv = xv ∧ wu.ownsRow (w3.heap.size + 1) 3 1 xv d ((revTake way d).map (Value.int .i64)) ∧ Below wr.heap.size wr wu) (fun _ kv _ => s.len - (intOf kv).toNat)
          case atStart => exact ⟨0, .slice none 0 0, rfl, by omega, rfl, ⟨rfl, .inl ⟨rfl, rfl⟩⟩, Below.refl _ _⟩
          case round =>
            obtain ⟨d, xv, rfl, hd, rfl, ho, hb⟩ := hrel
            have HO := Lib.hid ho
            have HB := Lib.hid hb
            clear ho hb
            by_cases hdl : d < s.len
            · obtain ⟨aw', cw', hvv, _, hcc⟩ := HWV.out.below (DF.out.trans (HB.out.mono DF.out.size))
              have hwn := HNL.out
              rw [hwn] at hvv
              simp only [Value.slice.injEq] at hvv
              obtain ⟨rfl, -, rfl⟩ := hvv
              obtain ⟨bw, ow, rfl, hbw, hcw⟩ := hcc.resolve_left (by intro h; rw [h] at hwn; simp at hwn; omega)
              have hwd := hcw d (by omega)
              have HRT : Hid ((revTake way (d + 1)).map (Value.int .i64) = [.int .i64 (way.getD d 0)] ++ (revTake way d).map (Value.int .i64)) := rfl
              generalize way.getD d 0 = x at *
              have hszr := HB.out.size
              have hbase : w3.heap.size + 1 ≤ wr.heap.size := by omega
              clear hcc hcw hwn
              have hfr : (wr.alloc (.cells #[.int .i64 x] 3)).ownsRow (w3.heap.size + 1) 3 1 (.slice (some ⟨wr.heap.size, 0, none⟩) 1 1) 1 [.int .i64 x] := ⟨rfl, .inr ⟨wr.heap.size, 1, _, rfl, hbase, heap_alloc_new _ _, Nat.le_refl _, by unfold maxLen; omega, rfl, rfl⟩⟩
              have hol : ((revTake way d).map (Value.int .i64)).length = d := by rw [List.length_map, revTake_len]
              obtain ⟨i0, hi0, hz0, hz1, hz2⟩ := i64info
              go_wp2_with (at_builtin; refine wpList_append_onto rfl _ _ 33 rfl (w3.heap.size + 1) 3 i0 (.int .i64 0) 1 8 Try.underlying33 hi0 hz0 hz1 hz2 rfl (by decide) (.slice (some ⟨wr.heap.size, 0, none⟩) 1 1) 1 _ rfl hfr (by decide) _ d _ rfl (SrcIn.own (HO.out.alloc _)) (by rw [hol, Nat.mul_one]) (fun u hu => by obtain ⟨z, -, rfl⟩ := List.mem_map.1 hu; rfl) (by unfold maxLen; omega) (by omega) (by simp; omega) ?_; intro v' w12 hown12 hgrow12)
              have hb2 := Lib.hid (HB.out.trans ((((Below.refl wr.heap.size wr).alloc (Nat.le_refl _) (.cells #[.int .i64 x] 3)).grown hgrow12 (by simp) (fun q e => by simp only [Value.ownBlock, Option.some.injEq] at e; exact Nat.le_of_eq e)).mono HB.out.size))
              rw [Nat.add_comm 1 d] at hown12
              have HO12 := Lib.hid hown12
              clear hown12 hgrow12 hfr
              go_wp2_with fail
              refine ⟨⟨d + 1, v', by push_cast; rfl, by omega, rfl, by rw [HRT.out]; exact HO12.out, hb2.out⟩, ?_⟩
              simp [intOf]
              omega
            · obtain hdn : d = s.len := by omega
              have hoi := (ownsRow_ints (l := revTake way s.len) (by rw [revTake_len, ← hdn]; exact HO.out) (by rw [revTake_len]; omega)).1
              have HWT := Lib.hid hoi
              have DW := Lib.hid (DF.out.trans (HB.out.mono DF.out.size))
              have ROW := Lib.hid (block_keep RO.out HB.out)
              have HSTW := Lib.hid (HST.out.next HB.out)
              obtain ⟨d', rfl⟩ : ∃ d', d = d' + 1 := ⟨d - 1, by omega⟩
              obtain ⟨ax, cx0, rfl⟩ := ownsRow_slice1 HO.out
              have co := fun i => cell_of_row wr _ i _ _ _ ROW.out
              have HDN := Lib.hid hdn
              clear hdn hoi
              go_wp2_with fail
              have hc := risks_any (backS s s.len) (.slice av k cv) (.slice ax (d' + 1) cx0) (revTake way s.len) wr HSTW.out HWT.out
              rw [risk_back HE.out HNL.out, HX.out] at hc
              refine hc.mono ?_
              rintro e' w9 ⟨rfl, hbw⟩
              have D9 := Lib.hid (DW.out.trans (hbw.mono DW.out.size))
              clear hbw hc co
              go_wp2_with fail
              refine (awake_any _).mono ?_
              rintro e' w10 ⟨rfl, hbw⟩
              have D10 := Lib.hid (D9.out.trans (hbw.mono D9.out.size))
              clear hbw
              go_wp2_with fail
              go_ret
              exact ⟨rfl, D10.out⟩
    · have hq : ((way.length : Int) != (s.len : Int)) = true := by
        rw [bne_iff_ne]; omega
      clear hnl
      go_wp2_with fail
      refine (awake_any _).mono ?_
      rintro e' w4 ⟨rfl, hbw⟩
      have C4 := Lib.hid (C3.out.trans (hbw.mono C3.out.size))
      clear hbw
      go_wp2_with fail
      go_ret
      exact ⟨rfl, C4.out⟩
  · have hzz : (e == 0) = false := by simpa using hz
    have hz2 : (e != 0) = true := by simpa using hz
    have hb := HXB.out (by rw [← (HXE.out : e = openE s way)]; exact hz)
    simp only [Prod.mk.injEq] at hb
    obtain ⟨rfl, rfl, -⟩ := hb
    clear hz
    go_wp2_with fail
    refine (awake_any _).mono ?_
    rintro e' w2 ⟨rfl, hbw⟩
    have C2 := Lib.hid (C1.out.trans (hbw.mono C1.out.size))
    clear hbw
    go_wp2_with fail
    go_ret
    exact ⟨rfl, C2.out⟩
end Go.Proofs.Ytddapabmfecidaa
