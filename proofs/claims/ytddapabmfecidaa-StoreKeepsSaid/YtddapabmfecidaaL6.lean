/- StoreSeason: the walk. -/
import Derived.Test.YtddapabmfecidaaAW
import Derived.Test.YtddapabmfecidaaP4
import Derived.Test.YtddapabmfecidaaP5
namespace Go.Proofs.Ytddapabmfecidaa
open Go.RowKit
/-- In a truth of a sound way candles neither bend nor bloom. -/
theorem fate_sound {s : Sea} {way warm : List Int} (he : openE s way = 0) (hwl : warm.length = way.length) (h : InSp s way warm) (h1 : (riskV s way).1 < s.days) (h2 : (riskV s way).2.1 < s.times) : fateV s way warm = (-1, -1, 0) := by
  obtain ⟨f1, f2, e, a, b, -, -, c, d⟩ := fate_in he hwl h
  have := risk_in he h
  rw [e]
  have e1 : f1 = -1 := by omega
  have e2 : f2 = -1 := by omega
  rw [e1, e2]
theorem Sound.openE {s : Sea} {way : List Int} (hc : (checkV s).2.2 = 0) (h : Sound s way) : openE s way = 0 := by
  have hg := good_of_ok hc
  have h1 := hg.len
  have h2 := h.1
  exact openE_mk hc (by omega) (by omega) h.2.1
theorem Sound.risk {s : Sea} {way : List Int} (hc : (checkV s).2.2 = 0) (h : Sound s way) : (riskV s way).1 < s.days ∧ (riskV s way).2.1 < s.times := by
  rw [riskV_ok (h.openE hc), h.1]
  exact h.2.2
/-- The worlds of the region that draws a truth and asks for its fate. -/
structure SeaW (wr : World) (n : Nat) (warm : List Int) (d5 d6 d10 d11 : Bool) (y55 y8 : Value) (w' : World) : Prop where
  bel : Below wr.heap.size wr w'
  tru : d6 = false → d5 = true → IntsIn .i64 w'.heap.size w' y55 warm ∧ CapOk y55 n
  box : d10 = true → ∃ b, y8 = .pointer (some ⟨b, 0, none⟩) ∧ wr.heap.size ≤ b ∧ w'.heap[b]? = some (.cells (if d11 then #[.int .i64 (-1), .int .i64 (-1)] else #[.int .i64 0, .int .i64 0]) 23)
theorem SeaW.call {wr : World} {n : Nat} {warm : List Int} {d5 d6 d6' d10 d11 : Bool} {y55 y8 : Value} {w' w'' : World} (h : SeaW wr n warm d5 d6 d10 d11 y55 y8 w') (hd : d6' = false → d6 = false) (hb : Below w'.heap.size w' w'') : SeaW wr n warm d5 d6' d10 d11 y55 y8 w'' := by
  refine ⟨h.bel.trans (hb.mono h.bel.size), fun a b => ?_, fun a => ?_⟩
  · obtain ⟨h1, h2⟩ := h.tru (hd a) b
    exact ⟨h1.next hb, h2⟩
  · obtain ⟨b, h1, h2, h3⟩ := h.box a
    exact ⟨b, h1, h2, block_keep h3 hb⟩
set_option maxRecDepth 100000 in
set_option maxHeartbeats 4000000 in
theorem season_any6 (s : Sea) (vs yv : Value) (ys : List Int) (hys : ∀ x ∈ ys, 0 ≤ x ∧ x ≤ 65535) (w : World) (hv : StosIn w.heap.size w vs s.stores) (hy : IntsIn .u16 w.heap.size w yv ys) :
    Calls Try.prog 6 #[.agg #[.int .i64 s.bend, .int .i64 s.days, .int .i64 s.jump, .int .i64 s.times, .int .i64 s.move, vs], yv] w (fun e w' => e = .returned (.bool true) ∧ Below w.heap.size w w') := by
  have HV := Lib.hid hv
  have HY := Lib.hid hy
  have HYS := Lib.hid hys
  clear hv hy hys
  have C0 : Hid (Below w.heap.size w (w.alloc (.cells #[.int .i64 s.bend, .int .i64 s.days, .int .i64 s.jump, .int .i64 s.times, .int .i64 s.move, vs] 31))) := (Below.refl _ _).alloc (Nat.le_refl _) _
  have R0 : Hid ((w.alloc (.cells #[.int .i64 s.bend, .int .i64 s.days, .int .i64 s.jump, .int .i64 s.times, .int .i64 s.move, vs] 31)).heap[w.heap.size]? = some (.cells #[.int .i64 s.bend, .int .i64 s.days, .int .i64 s.jump, .int .i64 s.times, .int .i64 s.move, vs] 31)) := heap_alloc_new _ _
  go_enter Try.func6, Try.ntmps6
  go_wp2_with fail
  refine (cheap_any s _ _ ((HV.out.below C0.out).mono C0.out.size)).mono ?_
  rintro e' w1 ⟨wv, rfl, hwi, -, hbw⟩
  have C1 := Lib.hid (C0.out.trans (hbw.mono C0.out.size))
  have R1 := Lib.hid (block_keep R0.out hbw)
  clear hbw C0 R0
  have hbad : (∃ e, cheapV s = ([], 0, e) ∧ e ≠ 0) ∨ ∃ way, (checkV s).2.2 = 0 ∧ cheapV s = (way, costTo s way way.length, 0) ∧ Sound s way := by
    by_cases hc : (checkV s).2.2 = 0
    · rcases cheap_spec hc with ⟨h1, -⟩ | ⟨way, h1, h2, -⟩
      · exact .inl ⟨9, h1, by decide⟩
      · exact .inr ⟨way, hc, h1, h2⟩
    · exact .inl ⟨_, cheapV_bad hc, hc⟩
  rcases hbad with ⟨e, hce, hz⟩ | ⟨way, hchk, hce, hso⟩
  · rw [hce] at hwi ⊢
    obtain ⟨aw, cw, rfl, -, -⟩ := hwi
    have hzz : (e != 0) = true := by simpa using hz
    clear hz
    go_wp2_with fail
    refine (awake_any _).mono ?_
    rintro e' w2 ⟨rfl, hbw⟩
    have C2 := Lib.hid (C1.out.trans (hbw.mono C1.out.size))
    clear hbw
    go_wp2_with fail
    go_ret
    exact ⟨rfl, C2.out⟩
  · rw [hce] at hwi ⊢
    have hsok : s.ok = true := by unfold Sea.ok; rw [hchk]; rfl
    have he := hso.openE hchk
    have HE := Lib.hid he
    have HG := Lib.hid (good_of_ok hchk)
    have HWO := Lib.hid (way_ok (openE_ok he).2)
    have HWE : Hid (wayE s way = 0) := (openE_ok he).2
    have HSO := Lib.hid (hso.risk hchk)
    have hst := HG.out.stores
    have hl8 := HG.out.len
    have hwl : way.length = s.len := hso.1
    have HCO : Hid (costV s way = (costTo s way way.length, 0)) := by unfold Hid costV; rw [if_pos he]
    have HWI := Lib.hid hwi
    generalize hcc : costTo s way way.length = cents at *
    clear hce hcc hso he hchk
    obtain ⟨aw, cw, rfl, -, -⟩ := hwi
    have cs1 := fun i => cell_of_row w1 _ i _ _ _ R1.out
    rw [hwl] at HWI ⊢
    go_wp2_with fail
    refine (valid_any s vs _ ((HV.out.below C1.out).mono C1.out.size) _ hsok).mono ?_
    rintro e' w2 ⟨rfl, hbw⟩
    have C2 := Lib.hid (C1.out.trans (hbw.mono C1.out.size))
    have R2 := Lib.hid (block_keep R1.out hbw)
    have HWI2 := Lib.hid (HWI.out.next hbw)
    clear hbw C1 R1 cs1 HWI
    have cs2 := fun i => cell_of_row w2 _ i _ _ _ R2.out
    go_wp2_with fail
    refine (way_any s vs _ way _ ((HV.out.below C2.out).mono C2.out.size) (by omega) HWI2.out).mono ?_
    rintro e' w3 ⟨rfl, hbw⟩
    have C3 := Lib.hid (C2.out.trans (hbw.mono C2.out.size))
    have R3 := Lib.hid (block_keep R2.out hbw)
    have HWI3 := Lib.hid (HWI2.out.next hbw)
    clear hbw C2 R2 cs2 HWI2
    rw [HWE.out]
    have cs3 := fun i => cell_of_row w3 _ i _ _ _ R3.out
    go_wp2_with fail
    refine (refDays_any s vs _ ((HV.out.below C3.out).mono C3.out.size) (by omega)).mono ?_
    rintro e' w4 ⟨rfl, hbw⟩
    have C4 := Lib.hid (C3.out.trans (hbw.mono C3.out.size))
    have R4 := Lib.hid (block_keep R3.out hbw)
    have HWI4 := Lib.hid (HWI3.out.next hbw)
    clear hbw C3 R3 cs3 HWI3
    have hnn : ((s.len : Int) != (s.len : Int)) = false := by simp
    go_upto_region 6 with fail
    refine wp_region_inv1 (by kernel_rfl) (by kernel_rfl) [55, 8] (fun D y w' => SeaW w4 s.len (truthL s way ys way.length) (D 5) (D 6) (D 10) (D 11) (y 55) (y 8) w' ∧ (D 7 = true → D 6 = true) ∧ (D 8 = true → D 6 = true)) ?_ ?F ?hF ?_
    · exact ⟨⟨(Below.refl _ _).drew, fun _ h => (by cases h), fun h => (by cases h)⟩, fun h => (by cases h), fun h => (by cases h)⟩
    case hF =>
      intro y
      simp only [fill, List.foldl, Act.put, List.setIfInBounds_toArray, List.set]
      exact rfl
    apply obl_det
    case hrun =>
      intro D y wz hW hD R hR
      have HRR := Lib.hid hR
      have HW := Lib.hid hW
      have cz := fun i => cell_of_row wz _ i _ _ _ (block_keep R4.out HW.out.1.bel)
      clear hR hD hW
      go_wp2
      exact HRR.out _ HW.out
    case hnp => rfl
    case hv => first | exact ⟨_, fun _ => rfl⟩ | exact ⟨undef, fun _ => rfl⟩
    apply obl_det
    case hrun =>
      intro D y wz hW hD R hR
      have HRR := Lib.hid hR
      have HW := Lib.hid hW
      clear hR hD hW
      go_wp2
      exact HRR.out _ HW.out
    case hnp => rfl
    case hv => first | exact ⟨_, fun _ => rfl⟩ | exact ⟨undef, fun _ => rfl⟩
    apply obl_det
    case hrun =>
      intro D y wz hW hD R hR
      have HRR := Lib.hid hR
      have HW := Lib.hid hW
      have cz := fun i => cell_of_row wz _ i _ _ _ (block_keep R4.out HW.out.1.bel)
      clear hR hD hW
      go_wp2
      exact HRR.out _ HW.out
    case hnp => rfl
    case hv => first | exact ⟨_, fun _ => rfl⟩ | exact ⟨undef, fun _ => rfl⟩
    apply obl_det
    case hrun =>
      intro D y wz hW hD R hR
      have HRR := Lib.hid hR
      have HW := Lib.hid hW
      clear hR hD hW
      go_wp2
      exact HRR.out _ HW.out
    case hnp => rfl
    case hv => first | exact ⟨_, fun _ => rfl⟩ | exact ⟨undef, fun _ => rfl⟩
    apply obl_det
    case hrun =>
      intro D y wz hW hD R hR
      have HRR := Lib.hid hR
      have HW := Lib.hid hW
      clear hR hD hW
      go_wp2
      exact HRR.out _ HW.out
    case hnp => rfl
    case hv => first | exact ⟨_, fun _ => rfl⟩ | exact ⟨undef, fun _ => rfl⟩
    apply obl_priv 55
    case hd => rfl
    case hp => rfl
    case hrun =>
      intro D y wz hW hD R hR
      have HRR := Lib.hid hR
      have H6 : D 6 = false := hD.post _ 6 rfl (by kernel_rfl)
      have HW := Lib.hid hW
      have CZ := Lib.hid (C4.out.trans (hW.1.bel.mono C4.out.size))
      clear hR hD hW
      have hc := truth_any s HG.out vs (.slice aw s.len cw) yv way ys HWO.out.2.1 HWO.out.2.2 HYS.out wz ((HV.out.below CZ.out).mono CZ.out.size) (HWI4.out.next HW.out.1.bel) ((HY.out.below CZ.out).mono CZ.out.size)
      go_wp2_with fail
      refine hc.mono ?_
      rintro e w' ⟨tv, rfl, hti, htc, hbw⟩
      go_wp2_with fail
      have hq := HW.out.1.call (d6' := D 6) (fun h => h) hbw
      exact HRR.out tv w' ⟨⟨hq.bel, fun _ _ => ⟨hti, hwl ▸ htc⟩, hq.box⟩, HW.out.2⟩
    apply obl_det
    case hrun =>
      intro D y wz hW hD R hR
      have HRR := Lib.hid hR
      have HW := Lib.hid hW
      have H5 : D 5 = true := hD.pre _ 5 rfl (by kernel_rfl)
      have H6 : D 6 = false := hD.not
      have hin := truthL_in (ys := ys) HG.out HWO.out.2.1 HWO.out.2.2
      have htl : (truthL s way ys way.length).length = way.length := truthL_len _ _ _ _
      have htr := hW.1.tru H6 H5
      clear hR hD hW
      have CZ := Lib.hid (C4.out.trans (HW.out.1.bel.mono C4.out.size))
      have hc := fate_any s vs (.slice aw s.len cw) (y 55) way (truthL s way ys way.length) wz ((HV.out.below CZ.out).mono CZ.out.size) (HWI4.out.next HW.out.1.bel) htr.1 (by rw [htl, hwl]; exact htr.2)
      rw [fate_sound HE.out htl hin HSO.out.1 HSO.out.2] at hc
      clear htr hin htl
      go_wp2_with fail
      refine hc.mono ?_
      rintro e w' ⟨rfl, hbw⟩
      go_wp2_with fail
      exact HRR.out w' ⟨HW.out.1.call (fun h => by simp at h) hbw, fun _ => rfl, fun _ => rfl⟩
    case hnp => rfl
    case hv => first | exact ⟨_, fun _ => rfl⟩ | exact ⟨undef, fun _ => rfl⟩
    apply obl_det
    case hrun =>
      intro D y wz hW hD R hR
      have HRR := Lib.hid hR
      have HW := Lib.hid hW
      have H6 : D 6 = true := hD.pre _ 6 rfl (by kernel_rfl)
      clear hR hD hW
      go_wp2
      exact HRR.out _ ⟨HW.out.1, fun _ => H6, HW.out.2.2⟩
    case hnp => rfl
    case hv => first | exact ⟨_, fun _ => rfl⟩ | exact ⟨undef, fun _ => rfl⟩
    apply obl_det
    case hrun =>
      intro D y wz hW hD R hR
      have HRR := Lib.hid hR
      have HW := Lib.hid hW
      have H6 : D 6 = true := hW.2.1 (hD.pre _ 7 rfl (by kernel_rfl))
      clear hR hD hW
      go_wp2
      exact HRR.out _ ⟨HW.out.1, HW.out.2.1, fun _ => H6⟩
    case hnp => rfl
    case hv => first | exact ⟨_, fun _ => rfl⟩ | exact ⟨undef, fun _ => rfl⟩
    apply obl_det
    case hrun =>
      intro D y wz hW hD R hR
      have HRR := Lib.hid hR
      have HW := Lib.hid hW
      clear hR hD hW
      go_wp2
      exact HRR.out _ HW.out
    case hnp => rfl
    case hv => first | exact ⟨_, fun _ => rfl⟩ | exact ⟨undef, fun _ => rfl⟩
    apply obl_priv 8
    case hd => rfl
    case hp => rfl
    case hrun =>
      intro D y wz hW hD R hR
      have HRR := Lib.hid hR
      have H10 : D 10 = false := hD.not
      have H11 : D 11 = false := hD.post _ 11 rfl (by kernel_rfl)
      have HW := Lib.hid hW
      clear hR hD hW
      go_wp2
      refine HRR.out _ _ ?_
      have hq := HW.out.1.call (d6' := D 6) (fun h => h) ((Below.refl wz.heap.size wz).alloc (Nat.le_refl _) (.cells #[.int .i64 0, .int .i64 0] 23))
      exact ⟨⟨hq.bel, hq.tru, fun _ => ⟨wz.heap.size, rfl, HW.out.1.bel.size, by
        rw [show ((11 : Nat) == 10 || D 11) = false by rw [H11]; rfl]
        exact heap_alloc_new _ _⟩⟩, HW.out.2⟩
    apply obl_det
    case hrun =>
      intro D y wz hW hD R hR
      have HRR := Lib.hid hR
      have HW := Lib.hid hW
      have H10 : D 10 = true := hD.pre _ 10 rfl (by kernel_rfl)
      have H6 : D 6 = true := hW.2.2 (hD.pre _ 8 rfl (by kernel_rfl))
      have H11 : D 11 = false := hD.not
      obtain ⟨b, hy8, hb, hrow⟩ := hW.1.box H10
      rw [H11] at hrow
      have hrow' : wz.heap[b]? = some (.cells #[.int .i64 0, .int .i64 0] 23) := hrow
      have cb := fun i => cell_of_row wz _ i _ _ _ hrow'
      clear hR hD hW hrow
      refine wpList_store_row rfl 23 _ _ rfl b #[.int .i64 (-1), .int .i64 (-1)] hy8 rfl 23 #[.int .i64 0, .int .i64 0] hrow' info23 rfl (by simp [Value.oneCell']) ?_
      have hbb := HW.out.1.bel
      have hnew : (wz.setRow b #[.int .i64 (-1), .int .i64 (-1)]).heap[b]? = some (.cells #[.int .i64 (-1), .int .i64 (-1)] 23) := setRow_heap _ _ _ _ _ _ hrow'
      have HQ : Hid (SeaW w4 s.len (truthL s way ys way.length) (D 5) (D 6) (D 10) true (y 55) (y 8) (wz.setRow b #[.int .i64 (-1), .int .i64 (-1)])) := ⟨below_setRow hbb hb _, (fun h => by rw [H6] at h; cases h), fun _ => ⟨b, hy8, hb, hnew⟩⟩
      clear hbb hnew cb hy8 hrow' hb
      go_wp2
      exact HRR.out _ ⟨HQ.out, HW.out.2⟩
    case hnp => rfl
    case hv => first | exact ⟨_, fun _ => rfl⟩ | exact ⟨undef, fun _ => rfl⟩
    apply obl_det
    case hrun =>
      intro D y wz hW hD R hR
      have HRR := Lib.hid hR
      have HW := Lib.hid hW
      clear hR hD hW
      go_wp2
      exact HRR.out _ HW.out
    case hnp => rfl
    case hv => first | exact ⟨_, fun _ => rfl⟩ | exact ⟨undef, fun _ => rfl⟩
    apply obl_nil
    intro D y w8 hall hW
    have H10 := hall 10 (by decide)
    have H11 := hall 11 (by decide)
    obtain ⟨b, hy8, hb, hrow⟩ := hW.1.box H10
    rw [H11] at hrow
    have C8 := Lib.hid hW.1.bel
    have F8 : Hid (w8.heap[b]? = some (.cells #[.int .i64 (-1), .int .i64 (-1)] 23)) := hrow
    clear hW hall
    rw [hy8]
    have R8 := Lib.hid (block_keep R4.out C8.out)
    have D8 := Lib.hid (C4.out.trans (C8.out.mono C4.out.size))
    have HWI8 := Lib.hid (HWI4.out.next C8.out)
    have cs8 := fun i => cell_of_row w8 _ i _ _ _ R8.out
    clear hy8 hb hrow C8 HWI4 R4 C4
    simp only [Exit.then]
    go_wp2_with fail
    have hc := cost_any s vs (.slice aw s.len cw) way w8 ((HV.out.below D8.out).mono D8.out.size) HWI8.out
    rw [HCO.out] at hc
    refine hc.mono ?_
    rintro e' w9 ⟨rfl, hbw⟩
    have D9 := Lib.hid (D8.out.trans (hbw.mono D8.out.size))
    have F9 := Lib.hid (block_keep F8.out hbw)
    have fs9 := fun i => cell_of_row w9 _ i _ _ _ F9.out
    clear hbw hc
    go_wp2_with fail
    refine (awake_any _).mono ?_
    rintro e' w10 ⟨rfl, hbw⟩
    have D10 := Lib.hid (D9.out.trans (hbw.mono D9.out.size))
    clear hbw
    go_wp2_with fail
    go_ret
    exact ⟨rfl, D10.out⟩
end Go.Proofs.Ytddapabmfecidaa
