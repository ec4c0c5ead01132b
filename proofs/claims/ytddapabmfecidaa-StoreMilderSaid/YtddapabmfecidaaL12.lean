/- StoreMilder: the walk. -/
import Derived.Test.YtddapabmfecidaaAW
import Derived.Test.YtddapabmfecidaaP10
import Derived.Test.YtddapabmfecidaaH8
import Derived.Lib.MinMax
namespace Go.Proofs.Ytddapabmfecidaa
open Go.RowKit
theorem two_allocs (w : World) (a b : Obj) : ((w.alloc a).alloc b).heap[w.heap.size]? = some a ∧ ((w.alloc a).alloc b).heap[w.heap.size + 1]? = some b := by
  refine ⟨(Below.heap_alloc (w.alloc a) b _ (by simp)).trans (heap_alloc_new w a), ?_⟩
  have := heap_alloc_new (w.alloc a) b
  rwa [World.size_alloc] at this
/-- The worlds of the region that copies the season and its candle. -/
structure MiW (wr : World) (S C : Array Value) (d3 d4 d5 d6 : Bool) (y10 y11 : Value) (w' : World) : Prop where
  bel : Below wr.heap.size wr w'
  a : d3 = true → ∃ b, y10 = .pointer (some ⟨b, 0, none⟩) ∧ wr.heap.size ≤ b ∧ w'.heap[b]? = some (.cells (if d5 then S else #[.int .i64 0, .int .i64 0, .int .i64 0, .int .i64 0, .int .i64 0, .slice none 0 0]) 31)
  c : d4 = true → ∃ b, y11 = .pointer (some ⟨b, 0, none⟩) ∧ wr.heap.size ≤ b ∧ w'.heap[b]? = some (.cells (if d6 then C else #[.int .i64 0, .int .i64 0, .int .i64 0, .int .i64 0]) 28)
theorem MiW.ne {w' : World} {b c : Nat} {cs cs' : Array Value} (hb : w'.heap[b]? = some (.cells cs 31)) (hc : w'.heap[c]? = some (.cells cs' 28)) : b ≠ c := by
  rintro rfl
  rw [hb] at hc
  simp at hc
theorem MiW.call {wr : World} {S C : Array Value} {d3 d4 d5 d6 : Bool} {y10 y11 : Value} {w' w'' : World} (h : MiW wr S C d3 d4 d5 d6 y10 y11 w') (hb : Below w'.heap.size w' w'') : MiW wr S C d3 d4 d5 d6 y10 y11 w'' := by
  refine ⟨h.bel.trans (hb.mono h.bel.size), fun e => ?_, fun e => ?_⟩
  · obtain ⟨b, h1, h2, h3⟩ := h.a e
    exact ⟨b, h1, h2, block_keep h3 hb⟩
  · obtain ⟨b, h1, h2, h3⟩ := h.c e
    exact ⟨b, h1, h2, block_keep h3 hb⟩
theorem info28 : (Try.prog.info? 28).map (·.size) = some 4 := by kernel_rfl
set_option maxRecDepth 100000 in
set_option maxHeartbeats 4000000 in
theorem milder_law (s : Sea) (vs wv : Value) (way : List Int) (x0 x1 x2 x3 x4 : Int) (hx0 : 0 ≤ x0 ∧ x0 ≤ 255) (hx1 : 0 ≤ x1 ∧ x1 ≤ 255) (hx2 : 0 ≤ x2 ∧ x2 ≤ 255) (hx3 : 0 ≤ x3 ∧ x3 ≤ 255) (hx4 : 0 ≤ x4 ∧ x4 ≤ 255) (w : World) (hv : StosIn w.heap.size w vs s.stores) (hw : IntsIn .i64 w.heap.size w wv way) :
    Calls Try.prog 12 #[.agg #[.int .i64 s.bend, .int .i64 s.days, .int .i64 s.jump, .int .i64 s.times, .int .i64 s.move, vs], wv, .agg #[.int .u8 x0, .int .u8 x1, .int .u8 x2, .int .u8 x3, .int .u8 x4]] w (fun e w' => e = .returned (.bool true) ∧ Below w.heap.size w w') := by
  have HV := Lib.hid hv
  have HWV := Lib.hid hw
  obtain ⟨asl, csl, rfl, hsl, hslc, -⟩ := hv
  obtain ⟨aw, cw, rfl, hwl, -⟩ := hw
  have hboth := two_allocs w (.cells #[.int .i64 s.bend, .int .i64 s.days, .int .i64 s.jump, .int .i64 s.times, .int .i64 s.move, .slice asl s.stores.length csl] 31) (.cells #[.int .u8 x0, .int .u8 x1, .int .u8 x2, .int .u8 x3, .int .u8 x4] 68)
  have C0 : Hid (Below w.heap.size w ((w.alloc (.cells #[.int .i64 s.bend, .int .i64 s.days, .int .i64 s.jump, .int .i64 s.times, .int .i64 s.move, .slice asl s.stores.length csl] 31)).alloc (.cells #[.int .u8 x0, .int .u8 x1, .int .u8 x2, .int .u8 x3, .int .u8 x4] 68))) := ((Below.refl _ _).alloc (Nat.le_refl _) _).alloc (by simp) _
  have R0 := Lib.hid hboth.1
  have X0 := Lib.hid hboth.2
  clear hboth
  obtain ⟨x, hx⟩ : ∃ x, riskV s way = x := ⟨_, rfl⟩
  have hxe := riskV_err s way
  rw [hx] at hxe
  obtain ⟨h, j, e⟩ := x
  have HX := Lib.hid hx
  have HXE := Lib.hid hxe
  clear hx hxe
  go_enter Try.func12, Try.ntmps12
  go_wp2_with fail
  refine (risks_any s _ _ way _ ((HV.out.below C0.out).mono C0.out.size) ((HWV.out.below C0.out).mono C0.out.size)).mono ?_
  rintro e' w1 ⟨rfl, hbw⟩
  have C1 := Lib.hid (C0.out.trans (hbw.mono C0.out.size))
  have R1 := Lib.hid (block_keep R0.out hbw)
  have X1 := Lib.hid (block_keep X0.out hbw)
  clear hbw C0 R0 X0
  rw [HX.out]
  by_cases hz : e = 0
  · subst hz
    have he : openE s way = 0 := HXE.out.symm
    have HE := Lib.hid he
    have hoo := openE_ok he
    have HCH := Lib.hid hoo.1
    have HG := Lib.hid (good_of_ok hoo.1)
    have HWO := Lib.hid (way_ok hoo.2)
    have hsok : s.ok = true := by unfold Sea.ok; rw [hoo.1]; rfl
    have hst := HG.out.stores
    have hl8 := HG.out.len
    clear hoo he
    have cs1 := fun i => cell_of_row w1 _ i _ _ _ R1.out
    go_wp2_with fail
    refine (valid_any s _ _ ((HV.out.below C1.out).mono C1.out.size) _ hsok).mono ?_
    rintro e' w2 ⟨rfl, hbw⟩
    have C2 := Lib.hid (C1.out.trans (hbw.mono C1.out.size))
    have R2 := Lib.hid (block_keep R1.out hbw)
    have X2 := Lib.hid (block_keep X1.out hbw)
    clear hbw C1 R1 X1 cs1
    have cs2 := fun i => cell_of_row w2 _ i _ _ _ R2.out
    go_upto_region 4 with fail
    refine wp_region_inv1 (by kernel_rfl) (by kernel_rfl) [10, 11] (fun D y w' => MiW w2 #[.int .i64 s.bend, .int .i64 s.days, .int .i64 s.jump, .int .i64 s.times, .int .i64 s.move, .slice asl s.stores.length csl] #[.int .i64 s.bend, .int .i64 s.days, .int .i64 s.jump, .int .i64 s.times] (D 3) (D 4) (D 5) (D 6) (y 10) (y 11) w') ?_ ?Fz ?hFz ?_
    · exact ⟨(Below.refl _ _).drew, fun h => (by cases h), fun h => (by cases h)⟩
    case hFz =>
      intro y
      simp only [fill, List.foldl, Act.put, List.setIfInBounds_toArray, List.set]
      exact rfl
    apply obl_det
    case hrun =>
      intro D y wz hW hD R hR
      have HRR := Lib.hid hR
      have HW := Lib.hid hW
      have cz := fun i => cell_of_row wz _ i _ _ _ (block_keep R2.out HW.out.bel)
      clear hR hD hW
      go_wp2
      exact HRR.out _ HW.out
    case hnp => rfl
    case hv => first | exact ⟨_, fun _ => rfl⟩ | exact ⟨undef, fun _ => rfl⟩
    apply obl_det
    case hrun =>
      intro D y wz hW hD R hR
      have HRR := Lib.hid hR
      have HW := Lib.hid hW
      have cz := fun i => cell_of_row wz _ i _ _ _ (block_keep R2.out HW.out.bel)
      clear hR hD hW
      go_wp2
      exact HRR.out _ HW.out
    case hnp => rfl
    case hv => first | exact ⟨_, fun _ => rfl⟩ | exact ⟨undef, fun _ => rfl⟩
    apply obl_det
    case hrun =>
      intro D y wz hW hD R hR
      have HRR := Lib.hid hR
      have HW := Lib.hid hW
      have cz := fun i => cell_of_row wz _ i _ _ _ (block_keep R2.out HW.out.bel)
      clear hR hD hW
      go_wp2
      exact HRR.out _ HW.out
    case hnp => rfl
    case hv => first | exact ⟨_, fun _ => rfl⟩ | exact ⟨undef, fun _ => rfl⟩
    apply obl_priv 10
    case hd => rfl
    case hp => rfl
    case hrun =>
      intro D y wz hW hD R hR
      have HRR := Lib.hid hR
      have H5 : D 5 = false := hD.post _ 5 rfl (by kernel_rfl)
      have HW := Lib.hid hW
      clear hR hD hW
      go_wp2
      refine HRR.out _ _ ?_
      have hq := HW.out.call ((Below.refl wz.heap.size wz).alloc (Nat.le_refl _) (.cells #[.int .i64 0, .int .i64 0, .int .i64 0, .int .i64 0, .int .i64 0, .slice none 0 0] 31))
      exact ⟨hq.bel, fun _ => ⟨wz.heap.size, rfl, HW.out.bel.size, by
        rw [show ((5 : Nat) == 3 || D 5) = false by rw [H5]; rfl]
        exact heap_alloc_new _ _⟩, hq.c⟩
    apply obl_priv 11
    case hd => rfl
    case hp => rfl
    case hrun =>
      intro D y wz hW hD R hR
      have HRR := Lib.hid hR
      have H6 : D 6 = false := hD.post _ 6 rfl (by kernel_rfl)
      have HW := Lib.hid hW
      clear hR hD hW
      go_wp2
      refine HRR.out _ _ ?_
      have hq := HW.out.call ((Below.refl wz.heap.size wz).alloc (Nat.le_refl _) (.cells #[.int .i64 0, .int .i64 0, .int .i64 0, .int .i64 0] 28))
      exact ⟨hq.bel, hq.a, fun _ => ⟨wz.heap.size, rfl, HW.out.bel.size, by
        rw [show ((6 : Nat) == 4 || D 6) = false by rw [H6]; rfl]
        exact heap_alloc_new _ _⟩⟩
    apply obl_det
    case hrun =>
      intro D y wz hW hD R hR
      have HRR := Lib.hid hR
      have HW := Lib.hid hW
      have HA : D 3 = true := hD.pre _ 3 rfl (by kernel_rfl)
      have HN : D 5 = false := hD.not
      obtain ⟨b, hyb, hb, hrow⟩ := hW.a HA
      rw [HN] at hrow
      have hrow' : wz.heap[b]? = some (.cells #[.int .i64 0, .int .i64 0, .int .i64 0, .int .i64 0, .int .i64 0, .slice none 0 0] 31) := hrow
      clear hR hD hW hrow
      refine wpList_store_row rfl 31 _ _ rfl b #[.int .i64 s.bend, .int .i64 s.days, .int .i64 s.jump, .int .i64 s.times, .int .i64 s.move, .slice asl s.stores.length csl] hyb rfl 31 #[.int .i64 0, .int .i64 0, .int .i64 0, .int .i64 0, .int .i64 0, .slice none 0 0] hrow' info31f rfl (by simp [Value.oneCell']) ?_
      have hnew : (wz.setRow b #[.int .i64 s.bend, .int .i64 s.days, .int .i64 s.jump, .int .i64 s.times, .int .i64 s.move, .slice asl s.stores.length csl]).heap[b]? = some (.cells #[.int .i64 s.bend, .int .i64 s.days, .int .i64 s.jump, .int .i64 s.times, .int .i64 s.move, .slice asl s.stores.length csl] 31) := setRow_heap _ _ _ _ _ _ hrow'
      have hoth : D 4 = true → ∃ c, y 11 = .pointer (some ⟨c, 0, none⟩) ∧ w2.heap.size ≤ c ∧ (wz.setRow b #[.int .i64 s.bend, .int .i64 s.days, .int .i64 s.jump, .int .i64 s.times, .int .i64 s.move, .slice asl s.stores.length csl]).heap[c]? = wz.heap[c]? ∧ wz.heap[c]? = some (.cells (if D 6 then #[.int .i64 s.bend, .int .i64 s.days, .int .i64 s.jump, .int .i64 s.times] else #[.int .i64 0, .int .i64 0, .int .i64 0, .int .i64 0]) 28) := by
        intro hd
        obtain ⟨c, h1, h2, h3⟩ := HW.out.c hd
        have hne : b ≠ c := by
          rintro rfl
          rw [hrow'] at h3
          simp at h3
        exact ⟨c, h1, h2, setRow_other wz _ _ _ (fun e => hne e.symm), h3⟩
      have HQ : Hid (MiW w2 #[.int .i64 s.bend, .int .i64 s.days, .int .i64 s.jump, .int .i64 s.times, .int .i64 s.move, .slice asl s.stores.length csl] #[.int .i64 s.bend, .int .i64 s.days, .int .i64 s.jump, .int .i64 s.times] (D 3) (D 4) true (D 6) (y 10) (y 11) (wz.setRow b #[.int .i64 s.bend, .int .i64 s.days, .int .i64 s.jump, .int .i64 s.times, .int .i64 s.move, .slice asl s.stores.length csl])) := ⟨below_setRow HW.out.bel hb _, fun _ => ⟨b, hyb, hb, hnew⟩, fun hd => by
        obtain ⟨c, h1, h2, h3, h4⟩ := hoth hd
        exact ⟨c, h1, h2, h3.trans h4⟩⟩
      clear hnew hoth hyb hrow' hb
      go_wp2
      exact HRR.out _ HQ.out
    case hnp => rfl
    case hv => first | exact ⟨_, fun _ => rfl⟩ | exact ⟨undef, fun _ => rfl⟩
    apply obl_det
    case hrun =>
      intro D y wz hW hD R hR
      have HRR := Lib.hid hR
      have HW := Lib.hid hW
      have HA : D 4 = true := hD.pre _ 4 rfl (by kernel_rfl)
      have HN : D 6 = false := hD.not
      obtain ⟨b, hyb, hb, hrow⟩ := hW.c HA
      rw [HN] at hrow
      have hrow' : wz.heap[b]? = some (.cells #[.int .i64 0, .int .i64 0, .int .i64 0, .int .i64 0] 28) := hrow
      clear hR hD hW hrow
      refine wpList_store_row rfl 28 _ _ rfl b #[.int .i64 s.bend, .int .i64 s.days, .int .i64 s.jump, .int .i64 s.times] hyb rfl 28 #[.int .i64 0, .int .i64 0, .int .i64 0, .int .i64 0] hrow' info28 rfl (by simp [Value.oneCell']) ?_
      have hnew : (wz.setRow b #[.int .i64 s.bend, .int .i64 s.days, .int .i64 s.jump, .int .i64 s.times]).heap[b]? = some (.cells #[.int .i64 s.bend, .int .i64 s.days, .int .i64 s.jump, .int .i64 s.times] 28) := setRow_heap _ _ _ _ _ _ hrow'
      have hoth : D 3 = true → ∃ c, y 10 = .pointer (some ⟨c, 0, none⟩) ∧ w2.heap.size ≤ c ∧ (wz.setRow b #[.int .i64 s.bend, .int .i64 s.days, .int .i64 s.jump, .int .i64 s.times]).heap[c]? = wz.heap[c]? ∧ wz.heap[c]? = some (.cells (if D 5 then #[.int .i64 s.bend, .int .i64 s.days, .int .i64 s.jump, .int .i64 s.times, .int .i64 s.move, .slice asl s.stores.length csl] else #[.int .i64 0, .int .i64 0, .int .i64 0, .int .i64 0, .int .i64 0, .slice none 0 0]) 31) := by
        intro hd
        obtain ⟨c, h1, h2, h3⟩ := HW.out.a hd
        have hne : b ≠ c := by
          rintro rfl
          rw [hrow'] at h3
          simp at h3
        exact ⟨c, h1, h2, setRow_other wz _ _ _ (fun e => hne e.symm), h3⟩
      have HQ : Hid (MiW w2 #[.int .i64 s.bend, .int .i64 s.days, .int .i64 s.jump, .int .i64 s.times, .int .i64 s.move, .slice asl s.stores.length csl] #[.int .i64 s.bend, .int .i64 s.days, .int .i64 s.jump, .int .i64 s.times] (D 3) (D 4) (D 5) true (y 10) (y 11) (wz.setRow b #[.int .i64 s.bend, .int .i64 s.days, .int .i64 s.jump, .int .i64 s.times])) := ⟨below_setRow HW.out.bel hb _, fun hd => by
        obtain ⟨c, h1, h2, h3, h4⟩ := hoth hd
        exact ⟨c, h1, h2, h3.trans h4⟩, fun _ => ⟨b, hyb, hb, hnew⟩⟩
      clear hnew hoth hyb hrow' hb
      go_wp2
      exact HRR.out _ HQ.out
    case hnp => rfl
    case hv => first | exact ⟨_, fun _ => rfl⟩ | exact ⟨undef, fun _ => rfl⟩
    apply obl_nil
    intro D y w3 hall hW
    obtain ⟨b, hy10, hb, hrb⟩ := hW.a (hall 3 (by decide))
    obtain ⟨c, hy11, hc, hrc⟩ := hW.c (hall 4 (by decide))
    rw [hall 5 (by decide)] at hrb
    rw [hall 6 (by decide)] at hrc
    have hrb' : w3.heap[b]? = some (.cells #[.int .i64 s.bend, .int .i64 s.days, .int .i64 s.jump, .int .i64 s.times, .int .i64 s.move, .slice asl s.stores.length csl] 31) := hrb
    have hrc' : w3.heap[c]? = some (.cells #[.int .i64 s.bend, .int .i64 s.days, .int .i64 s.jump, .int .i64 s.times] 28) := hrc
    have hbc : b ≠ c := MiW.ne hrb' hrc'
    have CB := Lib.hid hW.bel
    have B3 := Lib.hid hrb'
    have K3 := Lib.hid hrc'
    clear hW hall hrb hrc hrb' hrc'
    rw [hy10, hy11]
    have C3 := Lib.hid (C2.out.trans (CB.out.mono C2.out.size))
    have R3 := Lib.hid (block_keep R2.out CB.out)
    have X3 := Lib.hid (block_keep X2.out CB.out)
    have hbw : w.heap.size + 1 < b := Nat.lt_of_lt_of_le (block_lt X2.out) hb
    have hcw : w.heap.size + 1 < c := Nat.lt_of_lt_of_le (block_lt X2.out) hc
    clear hy10 hy11 CB C2 R2 X2 cs2
    have ck3 := fun i => cell_of_row w3 _ i _ _ _ K3.out
    have cx3 := fun i => cell_of_row w3 _ i _ _ _ X3.out
    have cb3 := fun i => cell_of_row w3 _ i _ _ _ B3.out
    have fb3 := fun i => frozen_of_row w3 _ i _ _ B3.out
    have hbend := HG.out.bend
    have hdays := HG.out.days
    have hjump := HG.out.jump
    have htimes := HG.out.times
    have hr0 : 0 ≤ x0 % 20 ∧ x0 % 20 < 20 := ⟨Int.emod_nonneg x0 (by decide), Int.emod_lt_of_pos x0 (by decide)⟩
    have hr1 : 0 ≤ x1 % 3 ∧ x1 % 3 < 3 := ⟨Int.emod_nonneg x1 (by decide), Int.emod_lt_of_pos x1 (by decide)⟩
    have hr2 : 0 ≤ x2 % 10 ∧ x2 % 10 < 10 := ⟨Int.emod_nonneg x2 (by decide), Int.emod_lt_of_pos x2 (by decide)⟩
    have hr3 : 0 ≤ x3 % 3 ∧ x3 % 3 < 3 := ⟨Int.emod_nonneg x3 (by decide), Int.emod_lt_of_pos x3 (by decide)⟩
    obtain ⟨be, hbe⟩ : ∃ v, min 60 (s.bend + x0 % 20) = v := ⟨_, rfl⟩
    obtain ⟨da, hda⟩ : ∃ v, min 8 (s.days + x1 % 3) = v := ⟨_, rfl⟩
    obtain ⟨jm, hjm⟩ : ∃ v, min 60 (s.jump + x2 % 10) = v := ⟨_, rfl⟩
    obtain ⟨ti, hti⟩ : ∃ v, min 8 (s.times + x3 % 3) = v := ⟨_, rfl⟩
    have hbe2 : s.bend ≤ be ∧ be ≤ 60 := by omega
    have hda2 : s.days ≤ da ∧ da ≤ 8 := by omega
    have hjm2 : s.jump ≤ jm ∧ jm ≤ 60 := by omega
    have hti2 : s.times ≤ ti ∧ ti ≤ 8 := by omega
    have ht28 : w3.there b 0 4 := fun j hj => ⟨by rw [Nat.zero_add, cb3]; match j, hj with
      | 0, _ => rfl
      | 1, _ => rfl
      | 2, _ => rfl
      | 3, _ => rfl, by rw [Nat.zero_add]; exact fb3 j⟩
    simp only [Exit.then]
    go_upto_region 6 with (refine wpList_store_mid rfl 28 _ _ rfl b 0 #[.int .i64 be, .int .i64 da, .int .i64 jm, .int .i64 ti] rfl rfl ht28 info28 (by simp [Value.oneCell']) ?_)
    have hset : w3.setCells b 0 [.int .i64 be, .int .i64 da, .int .i64 jm, .int .i64 ti] = w3.setRow b #[.int .i64 be, .int .i64 da, .int .i64 jm, .int .i64 ti, .int .i64 s.move, .slice asl s.stores.length csl] := setCells_row b 31 _ 0 w3 _ B3.out
    refine wp_world (fun w4 => Below w.heap.size w w4 ∧ w4.heap[w.heap.size]? = some (.cells #[.int .i64 s.bend, .int .i64 s.days, .int .i64 s.jump, .int .i64 s.times, .int .i64 s.move, .slice asl s.stores.length csl] 31) ∧ w4.heap[w.heap.size + 1]? = some (.cells #[.int .u8 x0, .int .u8 x1, .int .u8 x2, .int .u8 x3, .int .u8 x4] 68) ∧ w4.heap[b]? = some (.cells #[.int .i64 be, .int .i64 da, .int .i64 jm, .int .i64 ti, .int .i64 s.move, .slice asl s.stores.length csl] 31) ∧ w4.heap[c]? = some (.cells #[.int .i64 s.bend, .int .i64 s.days, .int .i64 s.jump, .int .i64 s.times] 28)) (by
      show _ ∧ _
      refine ⟨?_, ?_, ?_, ?_, ?_⟩
      · rw [hset]; exact below_setRow C3.out (by omega) _
      · rw [hset]; exact (setRow_other w3 _ _ _ (by omega)).trans R3.out
      · rw [hset]; exact (setRow_other w3 _ _ _ (by omega)).trans X3.out
      · rw [hset]; exact setRow_heap _ _ _ _ _ _ B3.out
      · rw [hset]; exact (setRow_other w3 _ _ _ (fun e => hbc e.symm)).trans K3.out) ?_
    intro w4 h4
    clear C3 R3 X3 B3 K3 ck3 cx3 cb3 fb3 ht28 hset
    have C4 := Lib.hid h4.1
    have R4 := Lib.hid h4.2.1
    have X4 := Lib.hid h4.2.2.1
    have B4 := Lib.hid h4.2.2.2.1
    have K4 := Lib.hid h4.2.2.2.2
    clear h4
    have cb4 := fun i => cell_of_row w4 _ i _ _ _ B4.out
    have hmild := risk_mild HE.out hbe2 hda2 hjm2 hti2
    obtain ⟨a1, b1, e1, hmr⟩ : ∃ a1 b1 e1, riskV (mildS s be da jm ti) way = (a1, b1, e1) := ⟨_, _, _, rfl⟩
    rw [hmr, HX.out] at hmild
    obtain ⟨rfl, hah, hbj⟩ : e1 = 0 ∧ a1 ≤ h ∧ b1 ≤ j := hmild
    have HMR := Lib.hid hmr
    clear hmr
    clear hbe hda hjm hti
    go_wp2_with fail
    have hc := risks_any (mildS s be da jm ti) (.slice asl s.stores.length csl) (.slice aw way.length cw) way w4 ((HV.out.below C4.out).mono C4.out.size) ((HWV.out.below C4.out).mono C4.out.size)
    rw [HMR.out] at hc
    refine hc.mono ?_
    rintro e' w5 ⟨rfl, hbw5⟩
    have C5 := Lib.hid (C4.out.trans (hbw5.mono C4.out.size))
    have R5 := Lib.hid (block_keep R4.out hbw5)
    have X5 := Lib.hid (block_keep X4.out hbw5)
    have B5 := Lib.hid (block_keep B4.out hbw5)
    have K5 := Lib.hid (block_keep K4.out hbw5)
    clear hbw5 hc C4 R4 X4 B4 K4 cb4
    have cb5 := fun i => cell_of_row w5 _ i _ _ _ B5.out
    have ck5 := fun i => cell_of_row w5 _ i _ _ _ K5.out
    have hq1 : decide (h < a1) = false := decide_eq_false (by omega)
    have hq2 : decide (j < b1) = false := decide_eq_false (by omega)
    obtain ⟨q1, hq3⟩ : ∃ q, decide (h < s.days) = q := ⟨_, rfl⟩
    obtain ⟨q2, hq4⟩ : ∃ q, decide (j < s.times) = q := ⟨_, rfl⟩
    have hq5 : q1 = true → decide (da ≤ a1) = false := fun e => by subst e; have := of_decide_eq_true hq3; exact decide_eq_false (by omega)
    have hq6 : q2 = true → decide (ti ≤ b1) = false := fun e => by subst e; have := of_decide_eq_true hq4; exact decide_eq_false (by omega)
    cases q1
    · go_upto_region 9 with fail
      clear hq1 hq2 hq3 hq4 hq5 hq6
      go_wp2_with fail
      go_loopw [15, 16, 17] (fun mv iv _ wr => ∃ (k : Nat) (M : Int), iv = .int .i64 k ∧ mv = .int .i64 M ∧ k ≤ s.stores.length ∧ 0 ≤ M ∧ M ≤ 60 - s.bend ∧ (∀ i, i < k → ∀ d, d < s.len → M ≤ 60 - (s.at i d).2) ∧ Below w5.heap.size w5 wr) (fun _ iv _ _ => s.stores.length - (intOf iv).toNat)
      case atStart => exact ⟨0, 60 - s.bend, rfl, rfl, by omega, by omega, by omega, fun i hi => by omega, Below.refl _ _⟩
      case round =>
        obtain ⟨k, M, rfl, rfl, hk, hM0, hM1, hall, hb⟩ := hrel
        have HALL := Lib.hid hall
        have HB := Lib.hid hb
        have RR := Lib.hid (block_keep R5.out hb)
        have DD := Lib.hid (C5.out.trans (hb.mono C5.out.size))
        clear hb hall
        have csr := fun i => cell_of_row wr _ i _ _ _ RR.out
        by_cases hlt : k < s.stores.length
        · obtain ⟨bs, os, cs', hvv, hsc, hbs, -, -, -, vm, hvm, hsm⟩ := (HV.out.below DD.out).at hlt
          simp only [Value.slice.injEq] at hvv
          obtain ⟨rfl, -, rfl⟩ := hvv
          have hwl0 : (s.stores.getD k default).warm.length = s.len := HG.out.lens k hlt
          obtain ⟨am, cm, rfl, hml, hmlc, hmc⟩ := hsm
          obtain ⟨bm, om, rfl, hbm, hmc⟩ := hmc.resolve_left (by intro h; rw [h] at hwl0; simp at hwl0; omega)
          have HMC : Hid (∀ d, d < s.len → wr.cell? ⟨bm, om + d * 2 + 1, none⟩ = some (.int .i64 (s.at k d).2)) := fun d hd => (hmc d (by rw [hwl0]; exact hd)).2
          have HSPN := Lib.hid (HG.out.span k hlt)
          rw [hwl0] at hvm hmlc
          clear hmc hml hwl0
          have hbsr : bs < wr.heap.size := Nat.lt_of_lt_of_le hbs DD.out.size
          have hbmr : bm < wr.heap.size := Nat.lt_of_lt_of_le hbm DD.out.size
          go_wp2_with fail
          clear csr
          generalize wr = wo at HB RR DD hvm hbsr hbmr HMC ⊢
          go_loopw [15, 17] (fun mv dv wu => ∃ (d : Nat) (M : Int), dv = .int .i64 d ∧ mv = .int .i64 M ∧ d ≤ s.len ∧ 0 ≤ M ∧ M ≤ 60 - s.bend ∧ (∀ i, i < k → ∀ d, d < s.len → M ≤ 60 - (s.at i d).2) ∧ (∀ d', d' < d → M ≤ 60 - (s.at k d').2) ∧ Below wo.heap.size wo wu) (fun _ dv _ => s.len - (intOf dv).toNat)
          case atStart => exact ⟨0, M, rfl, rfl, by omega, hM0, hM1, HALL.out, fun d hd => by omega, Below.refl _ _⟩
          case round =>
            obtain ⟨d, M, rfl, rfl, hd, hM0, hM1, hall, hsome, hb⟩ := hrel
            have HALL := Lib.hid hall
            have HSOME := Lib.hid hsome
            have HB2 := Lib.hid hb
            have RU := Lib.hid (block_keep RR.out hb)
            have hvu : wr.cell? ⟨bs, os + k * 3 + 2, none⟩ = some (.slice (some ⟨bm, om, none⟩) s.len cm) := (hb.cell (p := ⟨bs, os + k * 3 + 2, none⟩) hbsr).trans hvm
            have csu := fun i => cell_of_row wr _ i _ _ _ RU.out
            clear hb hall hsome
            by_cases hdl : d < s.len
            · have hsp := HSPN.out d hdl
              have hcd : wr.cell? ⟨bm, om + d * 2 + 1, none⟩ = some (.int .i64 (s.at k d).2) := (HB2.out.cell (p := ⟨bm, om + d * 2 + 1, none⟩) hbmr).trans (HMC.out d hdl)
              have HAT : Hid (∀ M' : Int, M' ≤ M → M' ≤ 60 - (s.at k d).2 → (∀ i, i < k → ∀ d, d < s.len → M' ≤ 60 - (s.at i d).2) ∧ (∀ d', d' < d + 1 → M' ≤ 60 - (s.at k d').2)) := by
                intro M' h1 h2
                refine ⟨fun i hi d' hd' => Int.le_trans h1 (HALL.out i hi d' hd'), fun d' hd' => ?_⟩
                by_cases hdd : d' < d
                · exact Int.le_trans h1 (HSOME.out d' hdd)
                · obtain rfl : d' = d := by omega
                  exact h2
              have hhi : 0 ≤ (s.at k d).2 ∧ (s.at k d).2 ≤ 60 := by
                have e : s.at k d = (s.stores.getD k default).warm.getD d (0, 0) := rfl
                rw [e]
                omega
              clear hsp
              generalize (s.at k d).2 = hi at *
              obtain ⟨M2, hM2⟩ : ∃ M2, min M (60 - hi) = M2 := ⟨_, rfl⟩
              have hat := HAT.out M2 (by omega) (by omega)
              have HA2 := Lib.hid hat
              have hb0 : 0 ≤ M2 ∧ M2 ≤ 60 - s.bend := by omega
              clear hat
              go_wp2_with fail
              refine ⟨⟨d + 1, M2, by push_cast; rfl, rfl, by omega, hb0.1, hb0.2, HA2.out.1, HA2.out.2, HB2.out⟩, ?_⟩
              simp [intOf]
              omega
            · obtain hdn : d = s.len := by omega
              have HDN := Lib.hid hdn
              clear hdn
              have HB3 := Lib.hid (HB.out.trans (HB2.out.mono HB.out.size))
              have HAL2 : Hid (∀ i, i < k + 1 → ∀ d, d < s.len → M ≤ 60 - (s.at i d).2) := by
                intro i hi d' hd'
                by_cases hik : i < k
                · exact HALL.out i hik d' hd'
                · obtain rfl : i = k := by omega
                  exact HSOME.out d' (by rw [HDN.out]; exact hd')
              go_wp2_with fail
              refine ⟨⟨k + 1, M, by push_cast; rfl, rfl, by omega, hM0, hM1, HAL2.out, HB3.out⟩, ?_⟩
              simp [intOf]
              omega
        · obtain hkn : s.stores.length = k := by omega
          have hkm : ∀ i, i < s.stores.length → ∀ d, d < s.len → M ≤ 60 - (s.at i d).2 := by rw [hkn]; exact HALL.out
          obtain ⟨n, hn, hn0, hn1⟩ : ∃ n : Int, x4 % (M + 1) = n ∧ 0 ≤ n ∧ n ≤ M := by
            have h1 := Int.emod_nonneg x4 (show M + 1 ≠ 0 by omega)
            have h2 := Int.emod_lt_of_pos x4 (show 0 < M + 1 by omega)
            exact ⟨_, rfl, h1, by omega⟩
          have HFIT : Hid (Fit s n) := ⟨hn0, by omega, fun i hi d hd => Int.le_trans hn1 (hkm i hi d hd)⟩
          have HKN := Lib.hid hkn
          clear hkm hkn
          have hz1 : ((M + 1 : Int) == 0) = false := beq_eq_false_iff_ne.2 (by omega)
          have hM2 : (0 : Int) < M + 1 := by omega
          have hM60 : M ≤ 60 := by omega
          have X6 := Lib.hid (block_keep X5.out HB.out)
          have K6 := Lib.hid (block_keep K5.out HB.out)
          have cx6 := fun i => cell_of_row wr _ i _ _ _ X6.out
          go_upto_region 18 with fail
          clear hz1 hM2 cx6
          have hca := changed_any s HG.out (.slice asl s.stores.length csl) (-n) n (by omega) (by omega) wr ((HV.out.below DD.out).mono DD.out.size)
          go_wp2_with fail
          refine hca.mono ?_
          rintro e' w7 ⟨fv, rfl, hfv, hbw7⟩
          have C7 := Lib.hid (DD.out.trans (hbw7.mono DD.out.size))
          have R7 := Lib.hid (block_keep RR.out hbw7)
          have K7 := Lib.hid (block_keep K6.out hbw7)
          have HFV := Lib.hid hfv
          obtain ⟨af, cf, rfl, -, -⟩ := hfv
          rw [chS_count] at HFV ⊢
          clear hbw7 hca X6 K6 csr RR DD HB
          go_upto_region 19 with fail
          refine wp_world (fun w8 => Below w7.heap.size w7 w8 ∧ w8.heap[w7.heap.size]? = some (.cells #[.int .i64 s.bend, .int .i64 s.days, .int .i64 s.jump, .int .i64 s.times, .int .i64 s.move, .slice af s.stores.length cf] 31)) ⟨(Below.refl _ _).alloc (Nat.le_refl _) _, heap_alloc_new _ _⟩ ?_
          intro w8 h8
          have B8 := Lib.hid h8.1
          have F8 := Lib.hid h8.2
          have K8 := Lib.hid (block_keep K7.out B8.out)
          have ck8 := fun i => cell_of_row w8 _ i _ _ _ K8.out
          have cf8 := fun i => cell_of_row w8 _ i _ _ _ F8.out
          have ff8 := frozen_of_row w8 _ 0 _ _ F8.out
          clear h8
          go_upto_region 20 with fail
          refine wp_world (fun w9 => Below w7.heap.size w7 w9 ∧ w9.heap[w7.heap.size]? = some (.cells #[.int .i64 (s.bend + n), .int .i64 s.days, .int .i64 s.jump, .int .i64 s.times, .int .i64 s.move, .slice af s.stores.length cf] 31)) ⟨B8.out.setCell (p := ⟨w7.heap.size, 0, none⟩) (Nat.le_refl _) _, setCell_at6 F8.out 0 _⟩ ?_
          intro w9 h9
          have B9 := Lib.hid h9.1
          have F9 := Lib.hid h9.2
          have C9 := Lib.hid (C7.out.trans (B9.out.mono C7.out.size))
          have R9 := Lib.hid (block_keep R7.out B9.out)
          have HFV9 := Lib.hid (HFV.out.next B9.out)
          have cf9 := fun i => cell_of_row w9 _ i _ _ _ F9.out
          clear h9 B8 F8 K8 ck8 cf8 ff8 K7 R7 HFV B9
          go_wp2_with fail
          have hc := risks_any (warmS s n) (.slice af s.stores.length cf) (.slice aw way.length cw) way w9 HFV9.out ((HWV.out.below C9.out).mono C9.out.size)
          rw [risk_warm HFIT.out HE.out, HX.out] at hc
          refine hc.mono ?_
          rintro e' w10 ⟨rfl, hbw10⟩
          have C10 := Lib.hid (C9.out.trans (hbw10.mono C9.out.size))
          have R10 := Lib.hid (block_keep R9.out hbw10)
          have F10 := Lib.hid (block_keep F9.out hbw10)
          have HFV10 := Lib.hid (HFV9.out.next hbw10)
          clear hbw10 hc C9 R9 F9 HFV9 cf9
          have cs10 := fun i => cell_of_row w10 _ i _ _ _ R10.out
          go_wp2_with fail
          refine (cheap_any s _ _ ((HV.out.below C10.out).mono C10.out.size)).mono ?_
          rintro e' w11 ⟨pv, rfl, hpi, -, hbw11⟩
          have C11 := Lib.hid (C10.out.trans (hbw11.mono C10.out.size))
          have F11 := Lib.hid (block_keep F10.out hbw11)
          have HFV11 := Lib.hid (HFV10.out.next hbw11)
          have HPI := Lib.hid hpi
          clear hbw11 C10 R10 F10 HFV10 cs10 hpi
          have cf11 := fun i => cell_of_row w11 _ i _ _ _ F11.out
          go_wp2_with fail
          have hc := cheap_any (warmS s n) (.slice af s.stores.length cf) w11 HFV11.out
          refine hc.mono ?_
          rintro e' w12 ⟨qv, he12, hqi, -, hbw12⟩
          rw [cheap_warm HCH.out HFIT.out] at he12 hqi
          subst he12
          have C12 := Lib.hid (C11.out.trans (hbw12.mono C11.out.size))
          have HPI12 := Lib.hid (HPI.out.next hbw12)
          have HQI := Lib.hid hqi
          clear hbw12 hc C11 F11 HFV11 cf11 HPI hqi
          obtain ⟨lp, pc, pe, hcv⟩ : ∃ a b c, cheapV s = (a, b, c) := ⟨_, _, _, rfl⟩
          rw [hcv] at HPI12 HQI ⊢
          simp only at HPI12 HQI
          clear hcv
          have hqe1 : (h == h) = true := by simp
          have hqe2 : (j == j) = true := by simp
          have hqe3 : (pc == pc) = true := by simp
          have hqe4 : (pe == pe) = true := by simp
          go_wp2_with fail
          refine (ints_same lp pv qv w12 HPI12.out HQI.out).mono ?_
          rintro e' w13 ⟨rfl, hbw13⟩
          have C13 := Lib.hid (C12.out.trans (hbw13.mono C12.out.size))
          clear hbw13
          go_wp2_with fail
          refine (awake_any _).mono ?_
          rintro e' w14 ⟨rfl, hbw14⟩
          have C14 := Lib.hid (C13.out.trans (hbw14.mono C13.out.size))
          clear hbw14
          go_wp2_with fail
          go_ret
          exact ⟨rfl, C14.out⟩
    · have hq7 := hq5 rfl
      cases q2
      · go_upto_region 9 with fail
        clear hq1 hq2 hq3 hq4 hq5 hq6
        go_wp2_with fail
        go_loopw [15, 16, 17] (fun mv iv _ wr => ∃ (k : Nat) (M : Int), iv = .int .i64 k ∧ mv = .int .i64 M ∧ k ≤ s.stores.length ∧ 0 ≤ M ∧ M ≤ 60 - s.bend ∧ (∀ i, i < k → ∀ d, d < s.len → M ≤ 60 - (s.at i d).2) ∧ Below w5.heap.size w5 wr) (fun _ iv _ _ => s.stores.length - (intOf iv).toNat)
        case atStart => exact ⟨0, 60 - s.bend, rfl, rfl, by omega, by omega, by omega, fun i hi => by omega, Below.refl _ _⟩
        case round =>
          obtain ⟨k, M, rfl, rfl, hk, hM0, hM1, hall, hb⟩ := hrel
          have HALL := Lib.hid hall
          have HB := Lib.hid hb
          have RR := Lib.hid (block_keep R5.out hb)
          have DD := Lib.hid (C5.out.trans (hb.mono C5.out.size))
          clear hb hall
          have csr := fun i => cell_of_row wr _ i _ _ _ RR.out
          by_cases hlt : k < s.stores.length
          · obtain ⟨bs, os, cs', hvv, hsc, hbs, -, -, -, vm, hvm, hsm⟩ := (HV.out.below DD.out).at hlt
            simp only [Value.slice.injEq] at hvv
            obtain ⟨rfl, -, rfl⟩ := hvv
            have hwl0 : (s.stores.getD k default).warm.length = s.len := HG.out.lens k hlt
            obtain ⟨am, cm, rfl, hml, hmlc, hmc⟩ := hsm
            obtain ⟨bm, om, rfl, hbm, hmc⟩ := hmc.resolve_left (by intro h; rw [h] at hwl0; simp at hwl0; omega)
            have HMC : Hid (∀ d, d < s.len → wr.cell? ⟨bm, om + d * 2 + 1, none⟩ = some (.int .i64 (s.at k d).2)) := fun d hd => (hmc d (by rw [hwl0]; exact hd)).2
            have HSPN := Lib.hid (HG.out.span k hlt)
            rw [hwl0] at hvm hmlc
            clear hmc hml hwl0
            have hbsr : bs < wr.heap.size := Nat.lt_of_lt_of_le hbs DD.out.size
            have hbmr : bm < wr.heap.size := Nat.lt_of_lt_of_le hbm DD.out.size
            go_wp2_with fail
            clear csr
            generalize wr = wo at HB RR DD hvm hbsr hbmr HMC ⊢
            go_loopw [15, 17] (fun mv dv wu => ∃ (d : Nat) (M : Int), dv = .int .i64 d ∧ mv = .int .i64 M ∧ d ≤ s.len ∧ 0 ≤ M ∧ M ≤ 60 - s.bend ∧ (∀ i, i < k → ∀ d, d < s.len → M ≤ 60 - (s.at i d).2) ∧ (∀ d', d' < d → M ≤ 60 - (s.at k d').2) ∧ Below wo.heap.size wo wu) (fun _ dv _ => s.len - (intOf dv).toNat)
            case atStart => exact ⟨0, M, rfl, rfl, by omega, hM0, hM1, HALL.out, fun d hd => by omega, Below.refl _ _⟩
            case round =>
              obtain ⟨d, M, rfl, rfl, hd, hM0, hM1, hall, hsome, hb⟩ := hrel
              have HALL := Lib.hid hall
              have HSOME := Lib.hid hsome
              have HB2 := Lib.hid hb
              have RU := Lib.hid (block_keep RR.out hb)
              have hvu : wr.cell? ⟨bs, os + k * 3 + 2, none⟩ = some (.slice (some ⟨bm, om, none⟩) s.len cm) := (hb.cell (p := ⟨bs, os + k * 3 + 2, none⟩) hbsr).trans hvm
              have csu := fun i => cell_of_row wr _ i _ _ _ RU.out
              clear hb hall hsome
              by_cases hdl : d < s.len
              · have hsp := HSPN.out d hdl
                have hcd : wr.cell? ⟨bm, om + d * 2 + 1, none⟩ = some (.int .i64 (s.at k d).2) := (HB2.out.cell (p := ⟨bm, om + d * 2 + 1, none⟩) hbmr).trans (HMC.out d hdl)
                have HAT : Hid (∀ M' : Int, M' ≤ M → M' ≤ 60 - (s.at k d).2 → (∀ i, i < k → ∀ d, d < s.len → M' ≤ 60 - (s.at i d).2) ∧ (∀ d', d' < d + 1 → M' ≤ 60 - (s.at k d').2)) := by
                  intro M' h1 h2
                  refine ⟨fun i hi d' hd' => Int.le_trans h1 (HALL.out i hi d' hd'), fun d' hd' => ?_⟩
                  by_cases hdd : d' < d
                  · exact Int.le_trans h1 (HSOME.out d' hdd)
                  · obtain rfl : d' = d := by omega
                    exact h2
                have hhi : 0 ≤ (s.at k d).2 ∧ (s.at k d).2 ≤ 60 := by
                  have e : s.at k d = (s.stores.getD k default).warm.getD d (0, 0) := rfl
                  rw [e]
                  omega
                clear hsp
                generalize (s.at k d).2 = hi at *
                obtain ⟨M2, hM2⟩ : ∃ M2, min M (60 - hi) = M2 := ⟨_, rfl⟩
                have hat := HAT.out M2 (by omega) (by omega)
                have HA2 := Lib.hid hat
                have hb0 : 0 ≤ M2 ∧ M2 ≤ 60 - s.bend := by omega
                clear hat
                go_wp2_with fail
                refine ⟨⟨d + 1, M2, by push_cast; rfl, rfl, by omega, hb0.1, hb0.2, HA2.out.1, HA2.out.2, HB2.out⟩, ?_⟩
                simp [intOf]
                omega
              · obtain hdn : d = s.len := by omega
                have HDN := Lib.hid hdn
                clear hdn
                have HB3 := Lib.hid (HB.out.trans (HB2.out.mono HB.out.size))
                have HAL2 : Hid (∀ i, i < k + 1 → ∀ d, d < s.len → M ≤ 60 - (s.at i d).2) := by
                  intro i hi d' hd'
                  by_cases hik : i < k
                  · exact HALL.out i hik d' hd'
                  · obtain rfl : i = k := by omega
                    exact HSOME.out d' (by rw [HDN.out]; exact hd')
                go_wp2_with fail
                refine ⟨⟨k + 1, M, by push_cast; rfl, rfl, by omega, hM0, hM1, HAL2.out, HB3.out⟩, ?_⟩
                simp [intOf]
                omega
          · obtain hkn : s.stores.length = k := by omega
            have hkm : ∀ i, i < s.stores.length → ∀ d, d < s.len → M ≤ 60 - (s.at i d).2 := by rw [hkn]; exact HALL.out
            obtain ⟨n, hn, hn0, hn1⟩ : ∃ n : Int, x4 % (M + 1) = n ∧ 0 ≤ n ∧ n ≤ M := by
              have h1 := Int.emod_nonneg x4 (show M + 1 ≠ 0 by omega)
              have h2 := Int.emod_lt_of_pos x4 (show 0 < M + 1 by omega)
              exact ⟨_, rfl, h1, by omega⟩
            have HFIT : Hid (Fit s n) := ⟨hn0, by omega, fun i hi d hd => Int.le_trans hn1 (hkm i hi d hd)⟩
            have HKN := Lib.hid hkn
            clear hkm hkn
            have hz1 : ((M + 1 : Int) == 0) = false := beq_eq_false_iff_ne.2 (by omega)
            have hM2 : (0 : Int) < M + 1 := by omega
            have hM60 : M ≤ 60 := by omega
            have X6 := Lib.hid (block_keep X5.out HB.out)
            have K6 := Lib.hid (block_keep K5.out HB.out)
            have cx6 := fun i => cell_of_row wr _ i _ _ _ X6.out
            go_upto_region 18 with fail
            clear hz1 hM2 cx6
            have hca := changed_any s HG.out (.slice asl s.stores.length csl) (-n) n (by omega) (by omega) wr ((HV.out.below DD.out).mono DD.out.size)
            go_wp2_with fail
            refine hca.mono ?_
            rintro e' w7 ⟨fv, rfl, hfv, hbw7⟩
            have C7 := Lib.hid (DD.out.trans (hbw7.mono DD.out.size))
            have R7 := Lib.hid (block_keep RR.out hbw7)
            have K7 := Lib.hid (block_keep K6.out hbw7)
            have HFV := Lib.hid hfv
            obtain ⟨af, cf, rfl, -, -⟩ := hfv
            rw [chS_count] at HFV ⊢
            clear hbw7 hca X6 K6 csr RR DD HB
            go_upto_region 19 with fail
            refine wp_world (fun w8 => Below w7.heap.size w7 w8 ∧ w8.heap[w7.heap.size]? = some (.cells #[.int .i64 s.bend, .int .i64 s.days, .int .i64 s.jump, .int .i64 s.times, .int .i64 s.move, .slice af s.stores.length cf] 31)) ⟨(Below.refl _ _).alloc (Nat.le_refl _) _, heap_alloc_new _ _⟩ ?_
            intro w8 h8
            have B8 := Lib.hid h8.1
            have F8 := Lib.hid h8.2
            have K8 := Lib.hid (block_keep K7.out B8.out)
            have ck8 := fun i => cell_of_row w8 _ i _ _ _ K8.out
            have cf8 := fun i => cell_of_row w8 _ i _ _ _ F8.out
            have ff8 := frozen_of_row w8 _ 0 _ _ F8.out
            clear h8
            go_upto_region 20 with fail
            refine wp_world (fun w9 => Below w7.heap.size w7 w9 ∧ w9.heap[w7.heap.size]? = some (.cells #[.int .i64 (s.bend + n), .int .i64 s.days, .int .i64 s.jump, .int .i64 s.times, .int .i64 s.move, .slice af s.stores.length cf] 31)) ⟨B8.out.setCell (p := ⟨w7.heap.size, 0, none⟩) (Nat.le_refl _) _, setCell_at6 F8.out 0 _⟩ ?_
            intro w9 h9
            have B9 := Lib.hid h9.1
            have F9 := Lib.hid h9.2
            have C9 := Lib.hid (C7.out.trans (B9.out.mono C7.out.size))
            have R9 := Lib.hid (block_keep R7.out B9.out)
            have HFV9 := Lib.hid (HFV.out.next B9.out)
            have cf9 := fun i => cell_of_row w9 _ i _ _ _ F9.out
            clear h9 B8 F8 K8 ck8 cf8 ff8 K7 R7 HFV B9
            go_wp2_with fail
            have hc := risks_any (warmS s n) (.slice af s.stores.length cf) (.slice aw way.length cw) way w9 HFV9.out ((HWV.out.below C9.out).mono C9.out.size)
            rw [risk_warm HFIT.out HE.out, HX.out] at hc
            refine hc.mono ?_
            rintro e' w10 ⟨rfl, hbw10⟩
            have C10 := Lib.hid (C9.out.trans (hbw10.mono C9.out.size))
            have R10 := Lib.hid (block_keep R9.out hbw10)
            have F10 := Lib.hid (block_keep F9.out hbw10)
            have HFV10 := Lib.hid (HFV9.out.next hbw10)
            clear hbw10 hc C9 R9 F9 HFV9 cf9
            have cs10 := fun i => cell_of_row w10 _ i _ _ _ R10.out
            go_wp2_with fail
            refine (cheap_any s _ _ ((HV.out.below C10.out).mono C10.out.size)).mono ?_
            rintro e' w11 ⟨pv, rfl, hpi, -, hbw11⟩
            have C11 := Lib.hid (C10.out.trans (hbw11.mono C10.out.size))
            have F11 := Lib.hid (block_keep F10.out hbw11)
            have HFV11 := Lib.hid (HFV10.out.next hbw11)
            have HPI := Lib.hid hpi
            clear hbw11 C10 R10 F10 HFV10 cs10 hpi
            have cf11 := fun i => cell_of_row w11 _ i _ _ _ F11.out
            go_wp2_with fail
            have hc := cheap_any (warmS s n) (.slice af s.stores.length cf) w11 HFV11.out
            refine hc.mono ?_
            rintro e' w12 ⟨qv, he12, hqi, -, hbw12⟩
            rw [cheap_warm HCH.out HFIT.out] at he12 hqi
            subst he12
            have C12 := Lib.hid (C11.out.trans (hbw12.mono C11.out.size))
            have HPI12 := Lib.hid (HPI.out.next hbw12)
            have HQI := Lib.hid hqi
            clear hbw12 hc C11 F11 HFV11 cf11 HPI hqi
            obtain ⟨lp, pc, pe, hcv⟩ : ∃ a b c, cheapV s = (a, b, c) := ⟨_, _, _, rfl⟩
            rw [hcv] at HPI12 HQI ⊢
            simp only at HPI12 HQI
            clear hcv
            have hqe1 : (h == h) = true := by simp
            have hqe2 : (j == j) = true := by simp
            have hqe3 : (pc == pc) = true := by simp
            have hqe4 : (pe == pe) = true := by simp
            go_wp2_with fail
            refine (ints_same lp pv qv w12 HPI12.out HQI.out).mono ?_
            rintro e' w13 ⟨rfl, hbw13⟩
            have C13 := Lib.hid (C12.out.trans (hbw13.mono C12.out.size))
            clear hbw13
            go_wp2_with fail
            refine (awake_any _).mono ?_
            rintro e' w14 ⟨rfl, hbw14⟩
            have C14 := Lib.hid (C13.out.trans (hbw14.mono C13.out.size))
            clear hbw14
            go_wp2_with fail
            go_ret
            exact ⟨rfl, C14.out⟩
      · have hq8 := hq6 rfl
        go_upto_region 9 with fail
        clear hq1 hq2 hq3 hq4 hq5 hq6
        go_wp2_with fail
        go_loopw [15, 16, 17] (fun mv iv _ wr => ∃ (k : Nat) (M : Int), iv = .int .i64 k ∧ mv = .int .i64 M ∧ k ≤ s.stores.length ∧ 0 ≤ M ∧ M ≤ 60 - s.bend ∧ (∀ i, i < k → ∀ d, d < s.len → M ≤ 60 - (s.at i d).2) ∧ Below w5.heap.size w5 wr) (fun _ iv _ _ => s.stores.length - (intOf iv).toNat)
        case atStart => exact ⟨0, 60 - s.bend, rfl, rfl, by omega, by omega, by omega, fun i hi => by omega, Below.refl _ _⟩
        case round =>
          obtain ⟨k, M, rfl, rfl, hk, hM0, hM1, hall, hb⟩ := hrel
          have HALL := Lib.hid hall
          have HB := Lib.hid hb
          have RR := Lib.hid (block_keep R5.out hb)
          have DD := Lib.hid (C5.out.trans (hb.mono C5.out.size))
          clear hb hall
          have csr := fun i => cell_of_row wr _ i _ _ _ RR.out
          by_cases hlt : k < s.stores.length
          · obtain ⟨bs, os, cs', hvv, hsc, hbs, -, -, -, vm, hvm, hsm⟩ := (HV.out.below DD.out).at hlt
            simp only [Value.slice.injEq] at hvv
            obtain ⟨rfl, -, rfl⟩ := hvv
            have hwl0 : (s.stores.getD k default).warm.length = s.len := HG.out.lens k hlt
            obtain ⟨am, cm, rfl, hml, hmlc, hmc⟩ := hsm
            obtain ⟨bm, om, rfl, hbm, hmc⟩ := hmc.resolve_left (by intro h; rw [h] at hwl0; simp at hwl0; omega)
            have HMC : Hid (∀ d, d < s.len → wr.cell? ⟨bm, om + d * 2 + 1, none⟩ = some (.int .i64 (s.at k d).2)) := fun d hd => (hmc d (by rw [hwl0]; exact hd)).2
            have HSPN := Lib.hid (HG.out.span k hlt)
            rw [hwl0] at hvm hmlc
            clear hmc hml hwl0
            have hbsr : bs < wr.heap.size := Nat.lt_of_lt_of_le hbs DD.out.size
            have hbmr : bm < wr.heap.size := Nat.lt_of_lt_of_le hbm DD.out.size
            go_wp2_with fail
            clear csr
            generalize wr = wo at HB RR DD hvm hbsr hbmr HMC ⊢
            go_loopw [15, 17] (fun mv dv wu => ∃ (d : Nat) (M : Int), dv = .int .i64 d ∧ mv = .int .i64 M ∧ d ≤ s.len ∧ 0 ≤ M ∧ M ≤ 60 - s.bend ∧ (∀ i, i < k → ∀ d, d < s.len → M ≤ 60 - (s.at i d).2) ∧ (∀ d', d' < d → M ≤ 60 - (s.at k d').2) ∧ Below wo.heap.size wo wu) (fun _ dv _ => s.len - (intOf dv).toNat)
            case atStart => exact ⟨0, M, rfl, rfl, by omega, hM0, hM1, HALL.out, fun d hd => by omega, Below.refl _ _⟩
            case round =>
              obtain ⟨d, M, rfl, rfl, hd, hM0, hM1, hall, hsome, hb⟩ := hrel
              have HALL := Lib.hid hall
              have HSOME := Lib.hid hsome
              have HB2 := Lib.hid hb
              have RU := Lib.hid (block_keep RR.out hb)
              have hvu : wr.cell? ⟨bs, os + k * 3 + 2, none⟩ = some (.slice (some ⟨bm, om, none⟩) s.len cm) := (hb.cell (p := ⟨bs, os + k * 3 + 2, none⟩) hbsr).trans hvm
              have csu := fun i => cell_of_row wr _ i _ _ _ RU.out
              clear hb hall hsome
              by_cases hdl : d < s.len
              · have hsp := HSPN.out d hdl
                have hcd : wr.cell? ⟨bm, om + d * 2 + 1, none⟩ = some (.int .i64 (s.at k d).2) := (HB2.out.cell (p := ⟨bm, om + d * 2 + 1, none⟩) hbmr).trans (HMC.out d hdl)
                have HAT : Hid (∀ M' : Int, M' ≤ M → M' ≤ 60 - (s.at k d).2 → (∀ i, i < k → ∀ d, d < s.len → M' ≤ 60 - (s.at i d).2) ∧ (∀ d', d' < d + 1 → M' ≤ 60 - (s.at k d').2)) := by
                  intro M' h1 h2
                  refine ⟨fun i hi d' hd' => Int.le_trans h1 (HALL.out i hi d' hd'), fun d' hd' => ?_⟩
                  by_cases hdd : d' < d
                  · exact Int.le_trans h1 (HSOME.out d' hdd)
                  · obtain rfl : d' = d := by omega
                    exact h2
                have hhi : 0 ≤ (s.at k d).2 ∧ (s.at k d).2 ≤ 60 := by
                  have e : s.at k d = (s.stores.getD k default).warm.getD d (0, 0) := rfl
                  rw [e]
                  omega
                clear hsp
                generalize (s.at k d).2 = hi at *
                obtain ⟨M2, hM2⟩ : ∃ M2, min M (60 - hi) = M2 := ⟨_, rfl⟩
                have hat := HAT.out M2 (by omega) (by omega)
                have HA2 := Lib.hid hat
                have hb0 : 0 ≤ M2 ∧ M2 ≤ 60 - s.bend := by omega
                clear hat
                go_wp2_with fail
                refine ⟨⟨d + 1, M2, by push_cast; rfl, rfl, by omega, hb0.1, hb0.2, HA2.out.1, HA2.out.2, HB2.out⟩, ?_⟩
                simp [intOf]
                omega
              · obtain hdn : d = s.len := by omega
                have HDN := Lib.hid hdn
                clear hdn
                have HB3 := Lib.hid (HB.out.trans (HB2.out.mono HB.out.size))
                have HAL2 : Hid (∀ i, i < k + 1 → ∀ d, d < s.len → M ≤ 60 - (s.at i d).2) := by
                  intro i hi d' hd'
                  by_cases hik : i < k
                  · exact HALL.out i hik d' hd'
                  · obtain rfl : i = k := by omega
                    exact HSOME.out d' (by rw [HDN.out]; exact hd')
                go_wp2_with fail
                refine ⟨⟨k + 1, M, by push_cast; rfl, rfl, by omega, hM0, hM1, HAL2.out, HB3.out⟩, ?_⟩
                simp [intOf]
                omega
          · obtain hkn : s.stores.length = k := by omega
            have hkm : ∀ i, i < s.stores.length → ∀ d, d < s.len → M ≤ 60 - (s.at i d).2 := by rw [hkn]; exact HALL.out
            obtain ⟨n, hn, hn0, hn1⟩ : ∃ n : Int, x4 % (M + 1) = n ∧ 0 ≤ n ∧ n ≤ M := by
              have h1 := Int.emod_nonneg x4 (show M + 1 ≠ 0 by omega)
              have h2 := Int.emod_lt_of_pos x4 (show 0 < M + 1 by omega)
              exact ⟨_, rfl, h1, by omega⟩
            have HFIT : Hid (Fit s n) := ⟨hn0, by omega, fun i hi d hd => Int.le_trans hn1 (hkm i hi d hd)⟩
            have HKN := Lib.hid hkn
            clear hkm hkn
            have hz1 : ((M + 1 : Int) == 0) = false := beq_eq_false_iff_ne.2 (by omega)
            have hM2 : (0 : Int) < M + 1 := by omega
            have hM60 : M ≤ 60 := by omega
            have X6 := Lib.hid (block_keep X5.out HB.out)
            have K6 := Lib.hid (block_keep K5.out HB.out)
            have cx6 := fun i => cell_of_row wr _ i _ _ _ X6.out
            go_upto_region 18 with fail
            clear hz1 hM2 cx6
            have hca := changed_any s HG.out (.slice asl s.stores.length csl) (-n) n (by omega) (by omega) wr ((HV.out.below DD.out).mono DD.out.size)
            go_wp2_with fail
            refine hca.mono ?_
            rintro e' w7 ⟨fv, rfl, hfv, hbw7⟩
            have C7 := Lib.hid (DD.out.trans (hbw7.mono DD.out.size))
            have R7 := Lib.hid (block_keep RR.out hbw7)
            have K7 := Lib.hid (block_keep K6.out hbw7)
            have HFV := Lib.hid hfv
            obtain ⟨af, cf, rfl, -, -⟩ := hfv
            rw [chS_count] at HFV ⊢
            clear hbw7 hca X6 K6 csr RR DD HB
            go_upto_region 19 with fail
            refine wp_world (fun w8 => Below w7.heap.size w7 w8 ∧ w8.heap[w7.heap.size]? = some (.cells #[.int .i64 s.bend, .int .i64 s.days, .int .i64 s.jump, .int .i64 s.times, .int .i64 s.move, .slice af s.stores.length cf] 31)) ⟨(Below.refl _ _).alloc (Nat.le_refl _) _, heap_alloc_new _ _⟩ ?_
            intro w8 h8
            have B8 := Lib.hid h8.1
            have F8 := Lib.hid h8.2
            have K8 := Lib.hid (block_keep K7.out B8.out)
            have ck8 := fun i => cell_of_row w8 _ i _ _ _ K8.out
            have cf8 := fun i => cell_of_row w8 _ i _ _ _ F8.out
            have ff8 := frozen_of_row w8 _ 0 _ _ F8.out
            clear h8
            go_upto_region 20 with fail
            refine wp_world (fun w9 => Below w7.heap.size w7 w9 ∧ w9.heap[w7.heap.size]? = some (.cells #[.int .i64 (s.bend + n), .int .i64 s.days, .int .i64 s.jump, .int .i64 s.times, .int .i64 s.move, .slice af s.stores.length cf] 31)) ⟨B8.out.setCell (p := ⟨w7.heap.size, 0, none⟩) (Nat.le_refl _) _, setCell_at6 F8.out 0 _⟩ ?_
            intro w9 h9
            have B9 := Lib.hid h9.1
            have F9 := Lib.hid h9.2
            have C9 := Lib.hid (C7.out.trans (B9.out.mono C7.out.size))
            have R9 := Lib.hid (block_keep R7.out B9.out)
            have HFV9 := Lib.hid (HFV.out.next B9.out)
            have cf9 := fun i => cell_of_row w9 _ i _ _ _ F9.out
            clear h9 B8 F8 K8 ck8 cf8 ff8 K7 R7 HFV B9
            go_wp2_with fail
            have hc := risks_any (warmS s n) (.slice af s.stores.length cf) (.slice aw way.length cw) way w9 HFV9.out ((HWV.out.below C9.out).mono C9.out.size)
            rw [risk_warm HFIT.out HE.out, HX.out] at hc
            refine hc.mono ?_
            rintro e' w10 ⟨rfl, hbw10⟩
            have C10 := Lib.hid (C9.out.trans (hbw10.mono C9.out.size))
            have R10 := Lib.hid (block_keep R9.out hbw10)
            have F10 := Lib.hid (block_keep F9.out hbw10)
            have HFV10 := Lib.hid (HFV9.out.next hbw10)
            clear hbw10 hc C9 R9 F9 HFV9 cf9
            have cs10 := fun i => cell_of_row w10 _ i _ _ _ R10.out
            go_wp2_with fail
            refine (cheap_any s _ _ ((HV.out.below C10.out).mono C10.out.size)).mono ?_
            rintro e' w11 ⟨pv, rfl, hpi, -, hbw11⟩
            have C11 := Lib.hid (C10.out.trans (hbw11.mono C10.out.size))
            have F11 := Lib.hid (block_keep F10.out hbw11)
            have HFV11 := Lib.hid (HFV10.out.next hbw11)
            have HPI := Lib.hid hpi
            clear hbw11 C10 R10 F10 HFV10 cs10 hpi
            have cf11 := fun i => cell_of_row w11 _ i _ _ _ F11.out
            go_wp2_with fail
            have hc := cheap_any (warmS s n) (.slice af s.stores.length cf) w11 HFV11.out
            refine hc.mono ?_
            rintro e' w12 ⟨qv, he12, hqi, -, hbw12⟩
            rw [cheap_warm HCH.out HFIT.out] at he12 hqi
            subst he12
            have C12 := Lib.hid (C11.out.trans (hbw12.mono C11.out.size))
            have HPI12 := Lib.hid (HPI.out.next hbw12)
            have HQI := Lib.hid hqi
            clear hbw12 hc C11 F11 HFV11 cf11 HPI hqi
            obtain ⟨lp, pc, pe, hcv⟩ : ∃ a b c, cheapV s = (a, b, c) := ⟨_, _, _, rfl⟩
            rw [hcv] at HPI12 HQI ⊢
            simp only at HPI12 HQI
            clear hcv
            have hqe1 : (h == h) = true := by simp
            have hqe2 : (j == j) = true := by simp
            have hqe3 : (pc == pc) = true := by simp
            have hqe4 : (pe == pe) = true := by simp
            go_wp2_with fail
            refine (ints_same lp pv qv w12 HPI12.out HQI.out).mono ?_
            rintro e' w13 ⟨rfl, hbw13⟩
            have C13 := Lib.hid (C12.out.trans (hbw13.mono C12.out.size))
            clear hbw13
            go_wp2_with fail
            refine (awake_any _).mono ?_
            rintro e' w14 ⟨rfl, hbw14⟩
            have C14 := Lib.hid (C13.out.trans (hbw14.mono C13.out.size))
            clear hbw14
            go_wp2_with fail
            go_ret
            exact ⟨rfl, C14.out⟩
  · have hzz : (e != 0) = true := by simpa using hz
    clear hz
    go_wp2_with fail
    refine (awake_any _).mono ?_
    rintro e' w2 ⟨rfl, hbw⟩
    have C2 := Lib.hid (C1.out.trans (hbw.mono C1.out.size))
    clear hbw
    go_wp2_with fail
    go_ret
    exact ⟨rfl, C2.out⟩
end Go.Proofs.Ytddapabmfecidaa

