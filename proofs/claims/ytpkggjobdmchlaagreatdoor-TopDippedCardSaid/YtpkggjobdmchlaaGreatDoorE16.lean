/- dip.Follow: its closures. -/
import Derived.Deep.Cut
import Derived.Deep.CutBlock
import Derived.Lib.MinMax
import Derived.Test.YtpkggjobdmchlaaGreatDoorE13
import Derived.Test.YtpkggjobdmchlaaGreatDoorK4
namespace Go.Proofs.YtpkggjobdmchlaaGreatDoor
open Go.RowKit
/-- A block of two or so is laid among calls, and stored. -/
structure PlG (ty : TypeId) (W1 : World) (old new : Array Value) (d1 d2 : Bool) (y : Value) (w : World) : Prop where
  bel : Below W1.heap.size W1 w
  al : d1 = true → ∃ g, y = .pointer (some ⟨g, 0, none⟩) ∧ W1.heap.size ≤ g ∧ w.heap[g]? = some (.cells (if d2 then new else old) ty)
theorem PlG.next {ty : TypeId} {W1 w w' : World} {old new : Array Value} {d1 d2 : Bool} {y : Value} (h : PlG ty W1 old new d1 d2 y w) (hb : Below w.heap.size w w') : PlG ty W1 old new d1 d2 y w' :=
  ⟨h.bel.trans (hb.mono h.bel.size), fun e => by
    obtain ⟨g, e1, e2, e3⟩ := h.al e
    exact ⟨g, e1, e2, block_keep e3 hb⟩⟩
/-- A slice is built, and one call takes it. -/
structure AlC (w : World) (l : List (Nat × Obj)) (V V1 : World) (d8 d9 : Bool) (w' : World) : Prop where
  bs : Bs w l w'
  ex : d9 = false → w' = bif d8 then V1 else V
/-- Taking a value. -/
theorem getD_cell {w : World} {B : Nat} {v : Value} {l : List Int} (h : IntsIn .i64 B w v l) {i : Nat} (hi : i < l.length) : ∃ a o c, v = .slice (some ⟨a, o, none⟩) l.length c ∧ a < B ∧ w.cell? ⟨a, o + i, none⟩ = some (.int .i64 (l.getD i 0)) := by
  obtain ⟨a', c', rfl, -, -⟩ := id h
  obtain ⟨b, o, rfl, h2, h3⟩ := IntsIn.at' h hi
  exact ⟨b, o, c', rfl, h2, h3⟩
set_option maxRecDepth 100000 in
set_option maxHeartbeats 8000000 in
theorem fclo1_ok {s : DShop} (_hs : DOk s) {d : DDip} (hd : DipOk s d) {wl : List Int} {i : Nat} (hi : i < wl.length) (hw : (warmOf s d).1 ≤ wl.getD i 0 ∧ wl.getD i 0 ≤ (warmOf s d).2) (v wv : Value) (xb wb B : Nat) (w : World)
    (hx : w.heap[xb]? = some (.cells (dshopC s v) 106)) (hwb : w.heap[wb]? = some (.cells #[wv] 49)) (hB : B ≤ w.heap.size) (hv : DBathsIn B w v s.baths) (hwv : IntsIn .i64 B w wv wl) :
    Calls Tryz.prog 51 #[.int .i64 i, .agg (dipC d), .pointer (some ⟨xb, 0, none⟩), .pointer (some ⟨wb, 0, none⟩)] w fun e w' => e = .returned (.int .i64 0) ∧ Below w.heap.size w w' := by
  obtain ⟨va, vc, rfl, hcap, -⟩ := sl_shape hv
  obtain ⟨a, o, c, rfl, hal, hac⟩ := getD_cell hwv hi
  have hbd := hd.bath
  obtain ⟨n, hn⟩ : ∃ n : Nat, d.bath = n := ⟨d.bath.toNat, by omega⟩
  have hil : n < s.baths.length := by omega
  have hii : (n : Int) < (s.baths.length : Int) := by omega
  have hiw : (i : Int) < (wl.length : Int) := by omega
  have hwn : warmOf s d = (s.baths.getD n default).warm := by unfold warmOf; rw [hn]; rfl
  obtain ⟨b, o2, he, hbl, hx0, hsz, hx1, hx2⟩ := hv.at' hil
  subst he
  rw [← hwn] at hx1 hx2
  have HLO : ∀ r, wl.getD i 0 = r → outOne (warmOf s d).1 (warmOf s d).2 r = false := fun r h => outOneF.2 (h ▸ hw)
  generalize wl.getD i 0 = wi at *
  generalize warmOf s d = wm at *
  obtain ⟨w1, w2⟩ := wm
  simp only at hx1 hx2 HLO hw
  have HLO := Lib.hid (HLO _ rfl)
  obtain ⟨bt, sec, pa, tu⟩ := d
  simp only at hn
  subst hn
  have C1 : Hid (Bs w [(w.heap.size, .cells (dipC ⟨n, sec, pa, tu⟩) 54)] _) := Lib.hid ((Bs.nil w).push _ rfl (.cells (dipC ⟨n, sec, pa, tu⟩) 54))
  have C2 : Hid (Bs w [(w.heap.size, .cells (dipC ⟨n, sec, pa, tu⟩) 54), (w.heap.size + 1, .cells #[.int .i64 0, .int .i64 0] 25)] _) := Lib.hid (C1.out.push (w.heap.size + 1) (by simp) (.cells #[.int .i64 0, .int .i64 0] 25))
  have c_d := C1.out.cell 0 rfl 0
  have c_8 := (C1.out.bel.cell (p := ⟨xb, 8, none⟩) (block_lt hx)).trans (cell_of_row _ _ 8 _ _ _ hx)
  have x1' := (C1.out.bel.cell (p := ⟨b, o2 + n * 3 + 1, none⟩) (by show b < _; omega)).trans hx1
  have x2' := (C1.out.bel.cell (p := ⟨b, o2 + n * 3 + 1 + 1, none⟩) (by show b < _; omega)).trans hx2
  have HWB := Lib.hid hwb
  have HWBL : Hid (wb < w.heap.size) := block_lt hwb
  have HAL : Hid (a < w.heap.size) := by unfold Hid; omega
  have HAC := Lib.hid hac
  have HBL := Lib.hid hB
  clear hx hwb hx0 hx1 hx2 hsz hbl hal hac hv hwv _hs hd hbd hw hwn
  go_enter Tryz.func51, Tryz.ntmps51
  go_upto_region 2 with (refine wpList_store_bs rfl 25 _ _ rfl C2.out 1 _ #[.int .i64 w1, .int .i64 w2] _ _ rfl rfl rfl infoSpan rfl (by simp [Value.oneCell']) ?_; intro w5 hC; have C5 : Hid (Bs w [(w.heap.size, .cells (dipC ⟨n, sec, pa, tu⟩) 54), (w.heap.size + 1, .cells #[.int .i64 w1, .int .i64 w2] 25)] w5) := hC; clear hC C1 C2 c_d c_8 x1' x2')
  obtain ⟨V, HV⟩ : ∃ z, Hid (w5.drew = z) := ⟨_, rfl⟩
  obtain ⟨V1, HV1⟩ : ∃ z, Hid (V.alloc (.cells #[.int .i64 wi] 3) = z) := ⟨_, rfl⟩
  refine wp_region_inv0 (by kernel_rfl) (by kernel_rfl) (fun D w' => AlC w [(w.heap.size, .cells (dipC ⟨n, sec, pa, tu⟩) 54), (w.heap.size + 1, .cells #[.int .i64 w1, .int .i64 w2] 25)] V V1 (D 8) (D 9) w') ⟨C5.out.drew, fun _ => HV.out⟩ ?_
  apply obl_det
  case hrun =>
    intro D y wz hW hD R hR
    have HRR := Lib.hid hR
    clear hR
    have HW := Lib.hid hW
    clear hW hD
    go_wp2_with fail
    exact HRR.out _ HW.out
  case hnp => rfl
  case hv => first | exact ⟨_, fun _ => rfl⟩ | exact ⟨undef, fun _ => rfl⟩
  apply obl_det
  case hrun =>
    intro D y wz hW hD R hR
    have HRR := Lib.hid hR
    clear hR
    have HW := Lib.hid hW
    have c_1 := HW.out.bs.cell 1 rfl 0
    clear hW hD
    go_wp2_with fail
    exact HRR.out _ HW.out
  case hnp => rfl
  case hv => first | exact ⟨_, fun _ => rfl⟩ | exact ⟨undef, fun _ => rfl⟩
  apply obl_det
  case hrun =>
    intro D y wz hW hD R hR
    have HRR := Lib.hid hR
    clear hR
    have HW := Lib.hid hW
    clear hW hD
    go_wp2_with fail
    exact HRR.out _ HW.out
  case hnp => rfl
  case hv => first | exact ⟨_, fun _ => rfl⟩ | exact ⟨undef, fun _ => rfl⟩
  apply obl_det
  case hrun =>
    intro D y wz hW hD R hR
    have HRR := Lib.hid hR
    clear hR
    have HW := Lib.hid hW
    have c_1 := HW.out.bs.cell 1 rfl 1
    clear hW hD
    go_wp2_with fail
    exact HRR.out _ HW.out
  case hnp => rfl
  case hv => first | exact ⟨_, fun _ => rfl⟩ | exact ⟨undef, fun _ => rfl⟩
  apply obl_det
  case hrun =>
    intro D y wz hW hD R hR
    have HRR := Lib.hid hR
    clear hR
    have HW := Lib.hid hW
    have c_b := (HW.out.bs.bel.cell (p := ⟨wb, 0, none⟩) HWBL.out).trans (cell_of_row _ _ 0 _ _ _ HWB.out)
    clear hW hD
    go_wp2_with fail
    exact HRR.out _ HW.out
  case hnp => rfl
  case hv => first | exact ⟨_, fun _ => rfl⟩ | exact ⟨undef, fun _ => rfl⟩
  iterate 2
    (apply obl_det
     case hrun =>
       intro D y wz hW hD R hR
       have HRR := Lib.hid hR
       clear hR
       have HW := Lib.hid hW
       clear hW hD
       go_wp2_with fail
       exact HRR.out _ HW.out
     case hnp => rfl
     case hv => first | exact ⟨_, fun _ => rfl⟩ | exact ⟨undef, fun _ => rfl⟩)
  apply obl_det
  case hrun =>
    intro D y wz hW hD R hR
    have HRR := Lib.hid hR
    clear hR
    have HW := Lib.hid hW
    have c_i := (HW.out.bs.bel.cell (p := ⟨a, o + i, none⟩) HAL.out).trans HAC.out
    clear hW hD
    go_wp2_with fail
    exact HRR.out _ HW.out
  case hnp => rfl
  case hv => first | exact ⟨_, fun _ => rfl⟩ | exact ⟨undef, fun _ => rfl⟩
  apply obl_det
  case hrun =>
    intro D y wz hW hD R hR
    have HRR := Lib.hid hR
    clear hR
    have h8 : D 8 = false := hD.not
    have h9 : D 9 = false := hD.post _ 9 rfl (by kernel_rfl)
    have hz : wz = V := by rw [hW.ex h9, h8]; rfl
    subst hz
    have H9 := Lib.hid h9
    clear h8 h9
    have HW := Lib.hid hW
    clear hW hD
    go_wp2_with fail
    rw [HV1.out]
    refine HRR.out _ ⟨by rw [← HV1.out]; exact HW.out.bs.alloc _, fun _ => rfl⟩
  case hnp => rfl
  case hv => first | exact ⟨_, fun _ => rfl⟩ | exact ⟨undef, fun _ => rfl⟩
  apply obl_det
  case hrun =>
    intro D y wz hW hD R hR
    have HRR := Lib.hid hR
    clear hR
    have h9 : D 9 = false := hD.not
    have h8 : D 8 = true := hD.pre _ 8 rfl (by kernel_rfl)
    have hz : wz = V1 := by rw [hW.ex h9, h8]; rfl
    subst hz
    clear h8 h9
    have HW := Lib.hid hW
    clear hW hD
    go_wp2_with fail
    refine (dout_row false w1 w2 [wi] 1 rfl (by simp) (by rw [outB_one]; exact HLO.out) _ _ rfl _ (by rw [← HV1.out]; exact heap_alloc_new _ _)).mono ?_
    rintro e w' ⟨rfl, hb⟩
    have HB2 := Lib.hid (HW.out.bs.call hb)
    clear hb
    go_wp2_with fail
    exact HRR.out _ ⟨HB2.out, fun e => by cases e⟩
  case hnp => rfl
  case hv => first | exact ⟨_, fun _ => rfl⟩ | exact ⟨undef, fun _ => rfl⟩
  apply obl_nil
  intro D y w8 hall hW
  have C8 := Lib.hid hW.bs
  clear hW hall C5
  go_wp2_with fail
  go_ret
  exact ⟨rfl, C8.out.bel⟩
set_option maxRecDepth 100000 in
set_option maxHeartbeats 16000000 in
theorem fclo2_ok {s : DShop} (hs : DOk s) {d : DDip} (hd : DipOk s d) {t : DTap} {wl : List Int} {i : Nat} (hi : i < wl.length) (hw : s.melt ≤ wl.getD i 0 ∧ wl.getD i 0 ≤ 2000) (hbt : (-1000000000000 ≤ t.top ∧ t.top ≤ 1000000000000) ∧ -1000000000000 ≤ t.foot ∧ t.foot ≤ 1000000000000)
    (hnl : t.wick ≤ t.top + (growV s d (wl.getD i 0)).1 ∧ t.wick ≤ t.foot + (growV s d (wl.getD i 0)).2) (v wv : Value) (xb wb tb B : Nat) (w : World)
    (hx : w.heap[xb]? = some (.cells (dshopC s v) 106)) (hwb : w.heap[wb]? = some (.cells #[wv] 49)) (htb : w.heap[tb]? = some (.cells (tapC t) 34)) (hB : B ≤ w.heap.size) (hv : DBathsIn B w v s.baths) (hwv : IntsIn .i64 B w wv wl) :
    Calls Tryz.prog 52 #[.int .i64 i, .agg (dipC d), .pointer (some ⟨xb, 0, none⟩), .pointer (some ⟨wb, 0, none⟩), .pointer (some ⟨tb, 0, none⟩)] w fun e w' => e = .returned (.int .i64 0) ∧ w'.heap[tb]? = some (.cells (tapC ⟨t.wick, t.top + (growV s d (wl.getD i 0)).1, t.foot + (growV s d (wl.getD i 0)).2⟩) 34) ∧ But tb w w' := by
  obtain ⟨va, vc, rfl, hcap, -⟩ := sl_shape hv
  obtain ⟨a, o, c, rfl, hal, hac⟩ := getD_cell hwv hi
  have hiw : (i : Int) < (wl.length : Int) := by omega
  have HGR := fun w => Lib.hid (grow_ok hs hd hw (.slice va s.baths.length vc) ⟨_, _, _, rfl⟩ w)
  have hgb := grow_bound hs hd hw
  generalize wl.getD i 0 = wi at *
  generalize growV s d wi = G at *
  obtain ⟨g1, g2⟩ := G
  obtain ⟨wk, tp, ft⟩ := t
  simp only at hnl hgb hbt HGR
  have HW1 : Hid (wrap64 (tp + g1) = tp + g1) := wrapU (by omega)
  have HW2 : Hid (wrap64 (ft + g2) = ft + g2) := wrapU (by omega)
  have hmin : wk ≤ min (tp + g1) (ft + g2) := by omega
  have HMIN := Lib.hid hmin
  have C1 : Hid (Bs w [(w.heap.size, .cells (dipC d) 54)] _) := Lib.hid ((Bs.nil w).push _ rfl (.cells (dipC d) 54))
  obtain ⟨w1, HWE⟩ : ∃ z, Hid (w.alloc (.cells (dipC d) 54) = z) := ⟨_, rfl⟩
  rw [HWE.out] at C1
  have HX1 : Hid (w1.heap[xb]? = some (.cells (dshopC s (.slice va s.baths.length vc)) 106)) := block_keep hx C1.out.bel
  have HXL1 : Hid (xb < w1.heap.size) := block_lt HX1.out
  have HWB1 : Hid (w1.heap[wb]? = some (.cells #[.slice (some ⟨a, o, none⟩) wl.length c] 49)) := block_keep hwb C1.out.bel
  have HWL1 : Hid (wb < w1.heap.size) := block_lt HWB1.out
  have HTB1 : Hid (w1.heap[tb]? = some (.cells #[.int .i64 wk, .int .i64 (tp), .int .i64 (ft)] 34)) := block_keep htb C1.out.bel
  have HTBL : Hid (tb < w.heap.size) := block_lt htb
  have HAC1 : Hid (w1.cell? ⟨a, o + i, none⟩ = some (.int .i64 wi)) := (C1.out.bel.cell (p := ⟨a, o + i, none⟩) (by show a < _; omega)).trans hac
  have HAL1 : Hid (a < w1.heap.size) := by have := C1.out.bel.size; unfold Hid; omega
  clear hx hwb htb hal hac hv hwv hs hd hw hgb hbt hnl hmin hB hcap hi
  go_enter Tryz.func52, Tryz.ntmps52
  go_upto_region 1 with fail
  rw [HWE.out]
  refine wp_region_inv1 (by kernel_rfl) (by kernel_rfl) [8] (fun D y w' => PlG 127 w1 #[.int .i64 0, .int .i64 0] #[.int .i64 g1, .int .i64 g2] (D 7) (D 8) (y 8) w') ⟨(Below.refl _ _).drew, fun h => (by cases h)⟩ ?FP ?hFP ?_
  case hFP =>
    intro y
    simp only [fill, List.foldl, Act.put, List.setIfInBounds_toArray, List.set]
    exact rfl
  apply obl_det
  case hrun =>
    intro D y wz hW hD R hR
    have HRR := Lib.hid hR
    clear hR
    have HW := Lib.hid hW
    have h1 := (HW.out.bel.block _ HXL1.out).trans HX1.out
    clear hW hD
    refine wpList_load_row rfl 106 _ rfl _ rfl _ _ _ _ h1 Tryz.underlying106 rfl infoDsh ?_
    go_wp2_with fail
    exact HRR.out _ ⟨HW.out.bel, HW.out.al⟩
  case hnp => rfl
  case hv => first | exact ⟨_, fun _ => rfl⟩ | exact ⟨undef, fun _ => rfl⟩
  apply obl_det
  case hrun =>
    intro D y wz hW hD R hR
    have HRR := Lib.hid hR
    clear hR
    have HW := Lib.hid hW
    have CW := C1.out.call HW.out.bel
    have h1 := CW.get 0 rfl
    clear CW
    clear hW hD
    refine wpList_load_row rfl 54 _ rfl _ rfl _ _ _ _ h1 Tryz.underlying54 rfl infoDD ?_
    go_wp2_with fail
    exact HRR.out _ ⟨HW.out.bel, HW.out.al⟩
  case hnp => rfl
  case hv => first | exact ⟨_, fun _ => rfl⟩ | exact ⟨undef, fun _ => rfl⟩
  apply obl_det
  case hrun =>
    intro D y wz hW hD R hR
    have HRR := Lib.hid hR
    clear hR
    have HW := Lib.hid hW
    have c_b := (HW.out.bel.cell (p := ⟨wb, 0, none⟩) HWL1.out).trans (cell_of_row _ _ 0 _ _ _ HWB1.out)
    clear hW hD
    go_wp2_with fail
    exact HRR.out _ ⟨HW.out.bel, HW.out.al⟩
  case hnp => rfl
  case hv => first | exact ⟨_, fun _ => rfl⟩ | exact ⟨undef, fun _ => rfl⟩
  apply obl_det
  case hrun =>
    intro D y wz hW hD R hR
    have HRR := Lib.hid hR
    clear hR
    have HW := Lib.hid hW
    clear hW hD
    go_wp2_with fail
    exact HRR.out _ ⟨HW.out.bel, HW.out.al⟩
  case hnp => rfl
  case hv => first | exact ⟨_, fun _ => rfl⟩ | exact ⟨undef, fun _ => rfl⟩
  apply obl_det
  case hrun =>
    intro D y wz hW hD R hR
    have HRR := Lib.hid hR
    clear hR
    have HW := Lib.hid hW
    clear hW hD
    go_wp2_with fail
    exact HRR.out _ ⟨HW.out.bel, HW.out.al⟩
  case hnp => rfl
  case hv => first | exact ⟨_, fun _ => rfl⟩ | exact ⟨undef, fun _ => rfl⟩
  apply obl_det
  case hrun =>
    intro D y wz hW hD R hR
    have HRR := Lib.hid hR
    clear hR
    have HW := Lib.hid hW
    have c_i := (HW.out.bel.cell (p := ⟨a, o + i, none⟩) HAL1.out).trans HAC1.out
    clear hW hD
    go_wp2_with fail
    exact HRR.out _ ⟨HW.out.bel, HW.out.al⟩
  case hnp => rfl
  case hv => first | exact ⟨_, fun _ => rfl⟩ | exact ⟨undef, fun _ => rfl⟩
  apply obl_det
  case hrun =>
    intro D y wz hW hD R hR
    have HRR := Lib.hid hR
    clear hR
    have HW := Lib.hid hW
    clear hW hD
    go_wp2_with fail
    refine (HGR _).out.mono ?_
    rintro e w' ⟨rfl, hb⟩
    have HW2 := Lib.hid (PlG.next HW.out hb)
    clear hb
    go_wp2_with fail
    exact HRR.out _ ⟨HW2.out.bel, HW2.out.al⟩
  case hnp => rfl
  case hv => first | exact ⟨_, fun _ => rfl⟩ | exact ⟨undef, fun _ => rfl⟩
  apply obl_priv 8
  case hd => rfl
  case hp => rfl
  case hrun =>
    intro D y wz hW hD R hR
    have HRR := Lib.hid hR
    clear hR
    have h14 : D 8 = false := hD.post _ 8 rfl (by kernel_rfl)
    have HBS := Lib.hid hW.bel
    have H14 := Lib.hid h14
    clear hW hD h14
    go_wp2_with fail
    refine HRR.out (.pointer (some ⟨wz.heap.size, 0, none⟩)) _ ⟨HBS.out.alloc HBS.out.size _, fun _ => ⟨_, rfl, HBS.out.size, ?_⟩⟩
    show _ = some (Obj.cells (if D 8 = true then _ else _) 127)
    rw [H14.out]
    exact heap_alloc_new _ _
  apply obl_det
  case hrun =>
    intro D y wz hW hD R hR
    have HRR := Lib.hid hR
    clear hR
    have h14 : D 8 = false := hD.not
    obtain ⟨gp, e, hgt, hcell⟩ := hW.al (hD.pre _ 7 rfl (by kernel_rfl))
    rw [h14] at hcell
    have CC := Lib.hid (Bs.snoc (l := []) (w := w1) ⟨by simp, by simp, by simp, hW.bel⟩ (by simp) hcell hgt)
    have E := Lib.hid e
    have HGT := Lib.hid hgt
    clear hW hD h14 hcell e hgt
    refine wpList_store_bs rfl 127 _ _ rfl CC.out 0 gp #[.int .i64 g1, .int .i64 g2] _ _ rfl E.out rfl infoGT rfl (by simp [Value.oneCell']) ?_
    intro w4 hC4
    simp only [Act.put]
    go_simp
    exact HRR.out _ ⟨hC4.bel, fun _ => ⟨gp, E.out, HGT.out, hC4.get 0 rfl⟩⟩
  case hnp => rfl
  case hv => first | exact ⟨_, fun _ => rfl⟩ | exact ⟨undef, fun _ => rfl⟩
  apply obl_nil
  intro D y w8 hall hW
  obtain ⟨gp, e, hgt, hcell⟩ := hW.al (hall 7 (by decide))
  rw [hall 8 (by decide)] at hcell
  have HCE := Lib.hid hcell
  have HGT := Lib.hid hgt
  have C2 := Lib.hid (C1.out.call hW.bel)
  have HBW := Lib.hid hW.bel
  clear hW hall hcell hgt
  rw [e]
  clear e
  simp only [if_true] at HCE
  have HTB8 : Hid (w8.heap[tb]? = some (.cells #[.int .i64 wk, .int .i64 (tp), .int .i64 (ft)] 34)) := block_keep HTB1.out HBW.out
  have HGPL : Hid (gp < w8.heap.size) := block_lt HCE.out
  have HGNE : Hid (gp ≠ tb) := by have := HGT.out; have := HTBL.out; have := C1.out.bel.size; unfold Hid; omega
  go_wp2_with fail
  refine wp_region_inv0 (by kernel_rfl) (by kernel_rfl) (fun D w' => But tb w8 w' ∧ w'.heap[tb]? = some (.cells (bif D 13 then #[.int .i64 wk, .int .i64 (tp + g1), .int .i64 (ft + g2)] else bif D 11 then #[.int .i64 wk, .int .i64 (tp + g1), .int .i64 (ft)] else #[.int .i64 wk, .int .i64 (tp), .int .i64 (ft)]) 34)) ⟨But.of (Below.refl _ _).drew, HTB8.out⟩ ?_
  apply obl_det
  case hrun =>
    intro D y wz hW hD R hR
    have HRR := Lib.hid hR
    clear hR
    have HW := Lib.hid hW
    clear hW hD
    go_wp2_with fail
    exact HRR.out _ HW.out
  case hnp => rfl
  case hv => first | exact ⟨_, fun _ => rfl⟩ | exact ⟨undef, fun _ => rfl⟩
  apply obl_det
  case hrun =>
    intro D y wz hW hD R hR
    have HRR := Lib.hid hR
    clear hR
    have h11 : D 11 = false := hD.post _ 11 rfl (by kernel_rfl)
    have h13 : D 13 = false := hD.post _ 13 rfl (by kernel_rfl)
    have htb := hW.2
    rw [h11, h13] at htb
    replace htb : wz.heap[tb]? = some (.cells #[.int .i64 wk, .int .i64 (tp), .int .i64 (ft)] 34) := htb
    clear h11 h13
    have HW := Lib.hid hW
    have c_t := cell_of_row _ _ 1 _ _ _ htb
    clear htb
    clear hW hD
    go_wp2_with fail
    exact HRR.out _ HW.out
  case hnp => rfl
  case hv => first | exact ⟨_, fun _ => rfl⟩ | exact ⟨undef, fun _ => rfl⟩
  apply obl_det
  case hrun =>
    intro D y wz hW hD R hR
    have HRR := Lib.hid hR
    clear hR
    have HW := Lib.hid hW
    clear hW hD
    go_wp2_with fail
    exact HRR.out _ HW.out
  case hnp => rfl
  case hv => first | exact ⟨_, fun _ => rfl⟩ | exact ⟨undef, fun _ => rfl⟩
  apply obl_det
  case hrun =>
    intro D y wz hW hD R hR
    have HRR := Lib.hid hR
    clear hR
    have HW := Lib.hid hW
    have c_g := cell_of_row _ _ 0 _ _ _ ((HW.out.1.block gp HGPL.out HGNE.out).trans HCE.out)
    clear hW hD
    go_wp2_with fail
    exact HRR.out _ HW.out
  case hnp => rfl
  case hv => first | exact ⟨_, fun _ => rfl⟩ | exact ⟨undef, fun _ => rfl⟩
  apply obl_det
  case hrun =>
    intro D y wz hW hD R hR
    have HRR := Lib.hid hR
    clear hR
    have HW := Lib.hid hW
    clear hW hD
    go_wp2_with fail
    rw [HW1.out]
    exact HRR.out _ HW.out
  case hnp => rfl
  case hv => first | exact ⟨_, fun _ => rfl⟩ | exact ⟨undef, fun _ => rfl⟩
  apply obl_det
  case hrun =>
    intro D y wz hW hD R hR
    have HRR := Lib.hid hR
    clear hR
    have HW := Lib.hid hW
    clear hW hD
    go_wp2_with fail
    exact HRR.out _ HW.out
  case hnp => rfl
  case hv => first | exact ⟨_, fun _ => rfl⟩ | exact ⟨undef, fun _ => rfl⟩
  apply obl_det
  case hrun =>
    intro D y wz hW hD R hR
    have HRR := Lib.hid hR
    clear hR
    have h11 : D 11 = false := hD.post _ 11 rfl (by kernel_rfl)
    have h13 : D 13 = false := hD.post _ 13 rfl (by kernel_rfl)
    have htb := hW.2
    rw [h11, h13] at htb
    replace htb : wz.heap[tb]? = some (.cells #[.int .i64 wk, .int .i64 (tp), .int .i64 (ft)] 34) := htb
    clear h11 h13
    have HW := Lib.hid hW
    have c_t := cell_of_row _ _ 2 _ _ _ htb
    clear htb
    clear hW hD
    go_wp2_with fail
    exact HRR.out _ HW.out
  case hnp => rfl
  case hv => first | exact ⟨_, fun _ => rfl⟩ | exact ⟨undef, fun _ => rfl⟩
  apply obl_det
  case hrun =>
    intro D y wz hW hD R hR
    have HRR := Lib.hid hR
    clear hR
    have HW := Lib.hid hW
    clear hW hD
    go_wp2_with fail
    exact HRR.out _ HW.out
  case hnp => rfl
  case hv => first | exact ⟨_, fun _ => rfl⟩ | exact ⟨undef, fun _ => rfl⟩
  apply obl_det
  case hrun =>
    intro D y wz hW hD R hR
    have HRR := Lib.hid hR
    clear hR
    have HW := Lib.hid hW
    have c_g := cell_of_row _ _ 1 _ _ _ ((HW.out.1.block gp HGPL.out HGNE.out).trans HCE.out)
    clear hW hD
    go_wp2_with fail
    exact HRR.out _ HW.out
  case hnp => rfl
  case hv => first | exact ⟨_, fun _ => rfl⟩ | exact ⟨undef, fun _ => rfl⟩
  apply obl_det
  case hrun =>
    intro D y wz hW hD R hR
    have HRR := Lib.hid hR
    clear hR
    have HW := Lib.hid hW
    clear hW hD
    go_wp2_with fail
    rw [HW2.out]
    exact HRR.out _ HW.out
  case hnp => rfl
  case hv => first | exact ⟨_, fun _ => rfl⟩ | exact ⟨undef, fun _ => rfl⟩
  apply obl_det
  case hrun =>
    intro D y wz hW hD R hR
    have HRR := Lib.hid hR
    clear hR
    have HW := Lib.hid hW
    clear hW hD
    go_wp2_with fail
    exact HRR.out _ HW.out
  case hnp => rfl
  case hv => first | exact ⟨_, fun _ => rfl⟩ | exact ⟨undef, fun _ => rfl⟩
  apply obl_det
  case hrun =>
    intro D y wz hW hD R hR
    have HRR := Lib.hid hR
    clear hR
    have h11 : D 11 = false := hD.not
    have h13 : D 13 = false := hD.post _ 13 rfl (by kernel_rfl)
    have htb := hW.2
    rw [h11, h13] at htb
    replace htb : wz.heap[tb]? = some (.cells #[.int .i64 wk, .int .i64 (tp), .int .i64 (ft)] 34) := htb
    have HTZ := Lib.hid htb
    have H13 := Lib.hid h13
    clear h11 h13 htb
    have HW := Lib.hid hW
    clear hW hD
    refine wpList_cell_but rfl 3 _ _ rfl tb 1 _ _ HTZ.out rfl (.int .i64 (tp + g1)) rfl (by simp) rfl infoInt1 ?_
    intro w9 hg hb
    simp only [Act.put]
    go_simp
    refine HRR.out _ ⟨HW.out.1.trans hb, ?_⟩
    show w9.heap[tb]? = some (.cells (bif D 13 then #[.int .i64 wk, .int .i64 (tp + g1), .int .i64 (ft + g2)] else #[.int .i64 wk, .int .i64 (tp + g1), .int .i64 (ft)]) 34)
    rw [H13.out]
    exact hg
  case hnp => rfl
  case hv => first | exact ⟨_, fun _ => rfl⟩ | exact ⟨undef, fun _ => rfl⟩
  apply obl_det
  case hrun =>
    intro D y wz hW hD R hR
    have HRR := Lib.hid hR
    clear hR
    have HW := Lib.hid hW
    clear hW hD
    go_wp2_with fail
    exact HRR.out _ HW.out
  case hnp => rfl
  case hv => first | exact ⟨_, fun _ => rfl⟩ | exact ⟨undef, fun _ => rfl⟩
  apply obl_det
  case hrun =>
    intro D y wz hW hD R hR
    have HRR := Lib.hid hR
    clear hR
    have h13 : D 13 = false := hD.not
    have h11 : D 11 = true := hD.pre _ 11 rfl (by kernel_rfl)
    have htb := hW.2
    rw [h11, h13] at htb
    replace htb : wz.heap[tb]? = some (.cells #[.int .i64 wk, .int .i64 (tp + g1), .int .i64 (ft)] 34) := htb
    have HTZ := Lib.hid htb
    clear h11 h13 htb
    have HW := Lib.hid hW
    clear hW hD
    refine wpList_cell_but rfl 3 _ _ rfl tb 2 _ _ HTZ.out rfl (.int .i64 (ft + g2)) rfl (by simp) rfl infoInt1 ?_
    intro w9 hg hb
    simp only [Act.put]
    go_simp
    exact HRR.out _ ⟨HW.out.1.trans hb, hg⟩
  case hnp => rfl
  case hv => first | exact ⟨_, fun _ => rfl⟩ | exact ⟨undef, fun _ => rfl⟩
  apply obl_nil
  intro D y w8 hall hW
  obtain ⟨hb9, ht9⟩ := hW
  rw [hall 13 (by decide)] at ht9
  replace ht9 : _ = some (Obj.cells #[.int .i64 wk, .int .i64 (tp + g1), .int .i64 (ft + g2)] 34) := ht9
  have HB9 := Lib.hid hb9
  have HT9 := Lib.hid ht9
  have c_0 := cell_of_row _ _ 0 _ _ _ ht9
  have c_1 := cell_of_row _ _ 1 _ _ _ ht9
  have c_2 := cell_of_row _ _ 2 _ _ _ ht9
  have hmin : ¬ min (tp + g1) (ft + g2) < wk := by have := HMIN.out; omega
  clear hb9 ht9 hall
  go_wp2_with fail
  go_ret
  exact ⟨rfl, HT9.out, (But.of C2.out.bel).trans HB9.out⟩
end Go.Proofs.YtpkggjobdmchlaaGreatDoor
