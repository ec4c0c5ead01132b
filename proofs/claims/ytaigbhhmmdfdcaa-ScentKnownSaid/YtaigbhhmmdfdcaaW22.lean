/- scent.Pale. -/
import Derived.Test.YtaigbhhmmdfdcaaW21
namespace Go.Proofs.Ytaigbhhmmdfdcaa
open Go.RowKit
set_option maxRecDepth 100000 in
set_option maxHeartbeats 4000000 in
theorem after_any (b2 b3 b4 gk : Nat) (nm : ByteArray) (kd lm wk fade micro wt shows : Int) (ho : PaleOk fade micro wt shows) (w : World)
    (c2 : w.heap[b2]? = some (.cells #[.string nm, .int .i64 kd, .int .i64 lm, .int .i64 wk, .int .i64 fade] 62)) (c3 : w.heap[b3]? = some (.cells #[.pointer (some ⟨gk, 0, none⟩)] 106)) (c4 : w.heap[b4]? = some (.cells #[.int .i64 shows] 3))
    (c5 : w.cell? ⟨gk, 3, none⟩ = some (.int .i64 wt)) (g5 : gk < w.heap.size) :
    Calls Try.prog 76 #[.int .i64 micro, .pointer (some ⟨b2, 0, none⟩), .pointer (some ⟨b3, 0, none⟩), .pointer (some ⟨b4, 0, none⟩)] w
      fun e w' => e = .returned (.int .i64 (paleV fade micro wt shows)) ∧ Below w.heap.size w w' := by
  have hb := (Below.refl w.heap.size w).alloc (Nat.le_refl _) (.cells #[.int .i64 micro] 3)
  have HB := Lib.hid hb
  have HS := Lib.hid (search_any w.heap.size b2 b3 b4 gk nm kd lm wk fade micro wt shows ho _ ⟨heap_alloc_new w (.cells #[.int .i64 micro] 3), block_keep c2 hb, block_keep c3 hb, block_keep c4 hb, (hb.cell (p := ⟨gk, 3, none⟩) g5).trans c5, Nat.lt_of_lt_of_le g5 hb.size⟩)
  clear hb c2 c3 c4 c5
  go_enter Try.func76, Try.ntmps76
  go_wp2_with fail
  refine HS.out.mono ?_
  rintro e w' ⟨rfl, hbw⟩
  have HB2 := Lib.hid (HB.out.trans (hbw.mono (by simp)))
  clear hbw
  go_wp2_with fail
  go_ret
  exact ⟨rfl, HB2.out⟩
theorem info106 : (Try.prog.info? 106).map (·.size) = some 1 := by kernel_rfl
theorem info62 : (Try.prog.info? 62).map (·.size) = some 5 := by kernel_rfl
/-- The two boxes of Pale, while they are made in any order. -/
structure PaW (wb : World) (gk : Nat) (th : Array Value) (d11 d12 d13 d14 : Bool) (ya yb : Value) (w' : World) : Prop where
  bel : Below wb.heap.size wb w'
  a : d11 = true → ∃ b, ya = .pointer (some ⟨b, 0, none⟩) ∧ w'.heap[b]? = some (.cells #[.pointer (if d13 then some ⟨gk, 0, none⟩ else none)] 106) ∧ wb.heap.size ≤ b
  b : d12 = true → ∃ b, yb = .pointer (some ⟨b, 0, none⟩) ∧ w'.heap[b]? = some (.cells (if d14 then th else (#[.string ⟨#[]⟩, .int .i64 0, .int .i64 0, .int .i64 0, .int .i64 0] : Array Value)) 62) ∧ wb.heap.size ≤ b
section
variable {wb w' w'' : World} {gk : Nat} {th : Array Value} {d11 d12 d13 d14 : Bool} {ya yb : Value}
theorem PaW.start : PaW wb gk th false false false false ya yb wb.drew := ⟨(Below.refl _ _).drew, fun h => (by cases h), fun h => (by cases h)⟩
theorem PaW.mk1 (h : PaW wb gk th false d12 false d14 ya yb w') : PaW wb gk th true d12 false d14 (.pointer (some ⟨w'.heap.size, 0, none⟩)) yb (w'.alloc (.cells #[.pointer none] 106)) :=
  ⟨h.bel.alloc h.bel.size _, fun _ => ⟨_, rfl, heap_alloc_new _ _, h.bel.size⟩, fun hd => by
    obtain ⟨b, e1, e2, e3⟩ := h.b hd
    exact ⟨b, e1, block_keep e2 ((Below.refl _ _).alloc (Nat.le_refl _) _), e3⟩⟩
theorem PaW.mk2 (h : PaW wb gk th d11 false d13 false ya yb w') : PaW wb gk th d11 true d13 false ya (.pointer (some ⟨w'.heap.size, 0, none⟩)) (w'.alloc (.cells (#[.string ⟨#[]⟩, .int .i64 0, .int .i64 0, .int .i64 0, .int .i64 0] : Array Value) 62)) :=
  ⟨h.bel.alloc h.bel.size _, fun hd => by
    obtain ⟨b, e1, e2, e3⟩ := h.a hd
    exact ⟨b, e1, block_keep e2 ((Below.refl _ _).alloc (Nat.le_refl _) _), e3⟩, fun _ => ⟨_, rfl, heap_alloc_new _ _, h.bel.size⟩⟩
theorem PaW.st1 {b : Nat} (h : PaW wb gk th d11 d12 false d14 (.pointer (some ⟨b, 0, none⟩)) yb w') (hb : wb.heap.size ≤ b) (ho : w'.heap[b]? = some (.cells #[.pointer none] 106)) (hg : w''.heap[b]? = some (.cells #[.pointer (some ⟨gk, 0, none⟩)] 106)) (hbut : But b w' w'') :
    PaW wb gk th d11 d12 true d14 (.pointer (some ⟨b, 0, none⟩)) yb w'' :=
  ⟨h.bel.trans (hbut.below hb h.bel.size), fun _ => ⟨b, rfl, hg, hb⟩, fun hd => by
    obtain ⟨b', e1, e2, e3⟩ := h.b hd
    refine ⟨b', e1, (hbut.block b' (block_lt e2) ?_).trans e2, e3⟩
    rintro rfl
    rw [ho] at e2
    injection e2 with e4
    injection e4 with _ e5
    exact absurd e5 (by decide)⟩
theorem PaW.st2 {b : Nat} (h : PaW wb gk th d11 d12 d13 false ya (.pointer (some ⟨b, 0, none⟩)) w') (hb : wb.heap.size ≤ b) (ho : w'.heap[b]? = some (.cells (#[.string ⟨#[]⟩, .int .i64 0, .int .i64 0, .int .i64 0, .int .i64 0] : Array Value) 62)) (hg : w''.heap[b]? = some (.cells th 62)) (hbut : But b w' w'') :
    PaW wb gk th d11 d12 d13 true ya (.pointer (some ⟨b, 0, none⟩)) w'' :=
  ⟨h.bel.trans (hbut.below hb h.bel.size), fun hd => by
    obtain ⟨b', e1, e2, e3⟩ := h.a hd
    refine ⟨b', e1, (hbut.block b' (block_lt e2) ?_).trans e2, e3⟩
    rintro rfl
    rw [ho] at e2
    injection e2 with e4
    injection e4 with _ e5
    exact absurd e5 (by decide), fun _ => ⟨b, rfl, hg, hb⟩⟩
end
set_option maxRecDepth 100000 in
set_option maxHeartbeats 16000000 in
theorem pale_any (s : Shop) (l : List Bat) (dye shows : Int) (vt vl v : Value) (w : World) (hv : ShopAt w.heap.size w vt vl s) (hl' : BatsIn w.heap.size w v l) :
    Calls Try.prog 34 #[.agg #[vt, vl], v, .int .i64 dye, .int .i64 shows] w (Ret3 (paleVV s l dye shows) w) := by
  unfold Ret3
  have HV := Lib.hid hv
  have HL := Lib.hid hl'
  obtain ⟨ta, tc, rfl, -, htl⟩ := sl_shape hv.1
  obtain ⟨la, lc, rfl, -, hll⟩ := sl_shape hv.2
  obtain ⟨va, vc, rfl, -, hvl⟩ := sl_shape hl'
  clear hv hl'
  have C0 := Lib.hid (((Bs.nil w).push _ rfl (.cells #[.slice ta s.things.length tc, .slice la s.lots.length lc] 25)).push (w.heap.size + 1) (by simp) (.cells #[.int .i64 shows] 3))
  have HMELT := Lib.hid (melt_any s l _ _ _ _ (HV.out.next C0.out.bel) (HL.out.next C0.out.bel))
  unfold MeltPost at HMELT
  have HCV : Hid (paleVV s l dye shows = if paleE s l dye shows ≠ 0 then (0, 0, paleE s l dye shows)
    else (paleV (s.things.getD dye.toNat default).fade (micV s l (l.length - 1) dye.toNat).1 (weightV (l.getD (l.length - 1) default)) shows,
    paleV (s.things.getD dye.toNat default).fade (micV s l (l.length - 1) dye.toNat).2 (weightV (l.getD (l.length - 1) default)) shows, 0)) := rfl
  have HPE : Hid (paleE s l dye shows = if batchesE s l ≠ 0 then batchesE s l else if outOne 0 (s.things.length - 1) dye then 4 else if (s.things.getD dye.toNat default).kind ≠ 1 then 2 else if outOne 0 1000000 shows then 7 else 0) := rfl
  have HOKB := Lib.hid (all_ok (s := s) (l := l))
  generalize paleVV s l dye shows = PV at *
  generalize paleE s l dye shows = PE at *
  obtain ⟨E, hE⟩ : ∃ x, batchesE s l = x := ⟨_, rfl⟩
  rw [hE] at HMELT HPE
  simp only [hE] at HOKB
  clear hE
  obtain ⟨r1, hr1⟩ : ∃ r, outOne 0 ((s.things.length : Int) - 1) dye = r := ⟨_, rfl⟩
  obtain ⟨r2, hr2⟩ : ∃ r, outOne 0 1000000 shows = r := ⟨_, rfl⟩
  rw [hr1, hr2] at HPE
  have HR1 := Lib.hid hr1
  have HR2 := Lib.hid hr2
  clear hr1 hr2
  go_enter Try.func34, Try.ntmps34
  go_wp2_with fail
  refine HMELT.out.mono ?_
  rintro e w1 ⟨hbad, hgood⟩
  by_cases hz : E = 0
  case neg =>
    have hz2 : (E != 0) = true := by simpa using hz
    have HZ := Lib.hid hz
    obtain ⟨rfl, hb1⟩ := hbad hz
    clear hz hbad hgood
    have C1 := Lib.hid (C0.out.call hb1)
    clear hb1 C0
    rw [if_pos HZ.out] at HPE
    go_wp2_with fail
    go_ret3
    rw [HCV.out, HPE.out, if_pos HZ.out]
    exact ⟨rfl, C1.out.bel⟩
  subst hz
  obtain ⟨g, bo, vr, rfl, hA⟩ := hgood rfl
  have HA := Lib.hid hA
  have HOK := Lib.hid (HOKB.out rfl)
  have C1 := Lib.hid (C0.out.call hA.bel)
  clear hbad hgood hA HOKB HMELT
  obtain ⟨ra, rc, hvr⟩ := HA.out.shape
  subst hvr
  have hn6 := HOK.out.l6
  have hn1 := HOK.out.l1
  have hnt5 := HOK.out.sh.nt5
  rw [if_neg (fun h => h rfl)] at HPE
  have C1A := Lib.hid (C1.out.push _ rfl (.cells #[.int .i64 dye] 3))
  have hc1 := C1.out.cell 0 rfl 0
  go_wp2_with fail
  refine (out_one r1 0 _ _ HR1.out _ _ (C1A.out.get 2 rfl)).mono ?_
  rintro e w2 ⟨rfl, hb1⟩
  have C2 := Lib.hid ((C1A.out.call hb1).sub [(w.heap.size, .cells #[.slice ta s.things.length tc, .slice la s.lots.length lc] 25), (w.heap.size + 1, .cells #[.int .i64 shows] 3)] (by simp))
  have HA2 := Lib.hid ((HA.out.alloc (.cells #[.int .i64 dye] 3)).call hb1)
  clear hb1 C1 C1A hc1 HA C0
  cases r1
  case true =>
    simp only [if_true] at HPE
    go_wp2_with fail
    go_ret3
    rw [HCV.out, HPE.out]
    exact ⟨rfl, C2.out.bel⟩
  simp only [Bool.false_eq_true, if_false] at HPE
  obtain ⟨dt, rfl⟩ : ∃ n : Nat, dye = n := ⟨dye.toNat, by have := (outOne_false.1 HR1.out).1; omega⟩
  have hdt : dt < s.things.length := by have := (outOne_false.1 HR1.out).2; omega
  simp only [Int.toNat_natCast] at HCV HPE
  obtain ⟨tb, tof, hta, htb, x1, x2, x3, x4, x5, -⟩ := HV.out.1.at' hdt
  subst hta
  simp only [rdThing] at x1 x2 x3 x4 x5
  have HX := Lib.hid (show _ ∧ _ ∧ _ ∧ _ ∧ _ from ⟨x1, x2, x3, x4, x5⟩)
  have hfade := HOK.out.sh.fade dt hdt
  clear x1 x2 x3 x4 x5
  obtain ⟨x, hx⟩ : ∃ x, s.things.getD dt default = x := ⟨_, rfl⟩
  simp only [hx] at HX HCV HPE hfade
  clear hx
  obtain ⟨nm, kd, lm, wk, fade⟩ := x
  simp only at HX HCV HPE hfade
  have hdt2 : (dt : Int) < (s.things.length : Int) := by omega
  have x2 := (C2.out.bel.cell (p := ⟨tb, _, none⟩) htb).trans HX.out.2.1
  have hc0 := C2.out.cell 0 rfl 0
  by_cases hk : kd = 1
  case neg =>
    have hq : (kd != 1) = true := by simpa using hk
    rw [if_pos hk] at HPE
    clear hk
    go_wp2_with fail
    go_ret3
    rw [HCV.out, HPE.out]
    exact ⟨rfl, C2.out.bel⟩
  subst hk
  have C2A := Lib.hid (C2.out.push _ rfl (.cells #[.int .i64 shows] 3))
  have hc1 := C2.out.cell 1 rfl 0
  simp only [ne_eq, not_true_eq_false, if_false] at HPE
  go_wp2_with fail
  refine (out_one r2 0 _ _ HR2.out _ _ (C2A.out.get 2 rfl)).mono ?_
  rintro e w3 ⟨rfl, hb1⟩
  have C3 := Lib.hid ((C2A.out.call hb1).sub [(w.heap.size, .cells #[.slice (some ⟨tb, tof, none⟩) s.things.length tc, .slice la s.lots.length lc] 25), (w.heap.size + 1, .cells #[.int .i64 shows] 3)] (by simp))
  have HA3 := Lib.hid ((HA2.out.alloc (.cells #[.int .i64 shows] 3)).call hb1)
  clear hb1 C2 C2A hc1 hc0 x2 HA2
  cases r2
  case true =>
    simp only [if_true] at HPE
    go_wp2_with fail
    go_ret3
    rw [HCV.out, HPE.out]
    exact ⟨rfl, C3.out.bel⟩
  simp only [Bool.false_eq_true, if_false] at HPE
  rw [HPE.out, if_neg (fun h => h rfl)] at HCV
  obtain ⟨kl, HKL⟩ : ∃ k, Hid (l.length - 1 = k) := ⟨_, rfl⟩
  have hkl : kl < l.length := by have := HKL.out; omega
  have hkl2 : (l.length : Int) - 1 = kl := by have := HKL.out; omega
  rw [HKL.out] at HCV
  obtain ⟨pb, pc, he, hpc, hpb, hcell⟩ := HA3.out.ptr hkl
  cases he
  have HGK : Hid (g kl < w3.heap.size) := block_lt (HA3.out.obj kl hkl)
  have HQ : Hid (w3.cell? ⟨g kl, 3, none⟩ = some (.int .i64 (weightV (l.getD kl default))) ∧ w3.cell? ⟨g kl, 5 + dt * 2, none⟩ = some (.int .i64 (micV s l kl dt).1) ∧ w3.cell? ⟨g kl, 5 + dt * 2 + 1, none⟩ = some (.int .i64 (micV s l kl dt).2)) :=
    ⟨HA3.out.wt hkl, HA3.out.lo hkl (show dt < 5 by omega), HA3.out.hi hkl (show dt < 5 by omega)⟩
  have hpos := HOK.out.pre.pos HOK.out.sh hn6 (Nat.le_refl _) hkl
  have hmi := mic_ok HOK.out.sh hn6 (fun j hj => HOK.out.pre j (by omega)) hkl dt
  have hsh := outOne_false.1 HR2.out
  generalize weightV (l.getD kl default) = wt at *
  generalize micV s l kl dt = mm at *
  obtain ⟨mlo, mhi⟩ := mm
  simp only at HQ HCV hmi
  have HP1 : Hid (PaleOk fade mlo wt shows) := ⟨hfade.1, hfade.2, by omega, by omega, by omega, by omega, hsh.1, hsh.2⟩
  have HP2 : Hid (PaleOk fade mhi wt shows) := ⟨hfade.1, hfade.2, by omega, by omega, by omega, by omega, hsh.1, hsh.2⟩
  have y1 := (C3.out.bel.cell (p := ⟨tb, _, none⟩) htb).trans HX.out.1
  have y2 := (C3.out.bel.cell (p := ⟨tb, _, none⟩) htb).trans HX.out.2.1
  have y3 := (C3.out.bel.cell (p := ⟨tb, _, none⟩) htb).trans HX.out.2.2.1
  have y4 := (C3.out.bel.cell (p := ⟨tb, _, none⟩) htb).trans HX.out.2.2.2.1
  have y5 := (C3.out.bel.cell (p := ⟨tb, _, none⟩) htb).trans HX.out.2.2.2.2
  have htb3 : tb < w3.heap.size := Nat.lt_of_lt_of_le htb C3.out.bel.size
  have hc0 := C3.out.cell 0 rfl 0
  have hgs3 := C3.out.lt 0 rfl
  go_wp2_with fail
  refine wp_region_inv1 (by kernel_rfl) (by kernel_rfl) [12, 13] (fun D y w' => PaW w3 (g kl) #[.string nm, .int .i64 1, .int .i64 lm, .int .i64 wk, .int .i64 fade] (D 11) (D 12) (D 13) (D 14) (y 12) (y 13) w') PaW.start ?FP ?hFP ?_
  case hFP =>
    intro y
    simp only [fill, List.foldl, Act.put, List.setIfInBounds_toArray, List.set]
    exact rfl
  iterate 11
    (apply obl_det
     case hrun =>
       intro D y wz hW hD R hR
       have HRR := Lib.hid hR
       clear hR
       have HW := Lib.hid hW
       have hc2 := (cellB hW.bel).1
       clear hW hD
       go_wp2
       exact HRR.out _ HW.out
     case hnp => rfl
     case hv => first | exact ⟨_, fun _ => rfl⟩ | exact ⟨undef, fun _ => rfl⟩)
  apply obl_priv 12
  case hd => rfl
  case hp => rfl
  case hrun =>
    intro D y wz hW hD R hR
    have HRR := Lib.hid hR
    clear hR
    have h11 : D 11 = false := hD.not
    have h13 : D 13 = false := hD.post _ 13 rfl (by kernel_rfl)
    have H13 := Lib.hid h13
    rw [h11, h13] at hW
    have HW := Lib.hid hW.mk1
    clear hW hD h11 h13
    go_wp2
    refine HRR.out _ _ ?_
    show PaW w3 (g kl) #[.string nm, .int .i64 1, .int .i64 lm, .int .i64 wk, .int .i64 fade] true (D 12) (D 13) (D 14) (.pointer (some ⟨wz.heap.size, 0, none⟩)) (y 13) _
    rw [H13.out]
    exact HW.out
  apply obl_priv 13
  case hd => rfl
  case hp => rfl
  case hrun =>
    intro D y wz hW hD R hR
    have HRR := Lib.hid hR
    clear hR
    have h12 : D 12 = false := hD.not
    have h14 : D 14 = false := hD.post _ 14 rfl (by kernel_rfl)
    have H14 := Lib.hid h14
    rw [h12, h14] at hW
    have HW := Lib.hid hW.mk2
    clear hW hD h12 h14
    go_wp2
    refine HRR.out _ _ ?_
    show PaW w3 (g kl) #[.string nm, .int .i64 1, .int .i64 lm, .int .i64 wk, .int .i64 fade] (D 11) true (D 13) (D 14) (y 12) (.pointer (some ⟨wz.heap.size, 0, none⟩)) _
    rw [H14.out]
    exact HW.out
  apply obl_det
  case hrun =>
    intro D y wz hW hD R hR
    have HRR := Lib.hid hR
    clear hR
    have h11 : D 11 = true := hD.pre _ 11 rfl (by kernel_rfl)
    have h13 : D 13 = false := hD.not
    obtain ⟨b, eb, hb, hge⟩ := hW.a h11
    rw [h13] at hW hb
    have hW2 := hW
    rw [eb] at hW2
    have HW := Lib.hid hW2
    have HGE := Lib.hid hge
    have HB := Lib.hid hb
    have EB := Lib.hid eb
    clear hW hW2 hD h11 h13 hge hb
    refine wpList_cell_but rfl 106 _ _ rfl b 0 #[.pointer none] 106 HB.out eb (.pointer (some ⟨g kl, 0, none⟩)) rfl (by simp) rfl info106 ?_
    intro w5 hg5 hb5
    have HN := HW.out.st1 HGE.out HB.out hg5 hb5
    rw [← eb] at HN
    have HN2 := Lib.hid HN
    clear HN hg5 hb5 eb
    go_wp2
    exact HRR.out _ HN2.out
  case hnp => rfl
  case hv => first | exact ⟨_, fun _ => rfl⟩ | exact ⟨undef, fun _ => rfl⟩
  apply obl_det
  case hrun =>
    intro D y wz hW hD R hR
    have HRR := Lib.hid hR
    clear hR
    have h12 : D 12 = true := hD.pre _ 12 rfl (by kernel_rfl)
    have h14 : D 14 = false := hD.not
    obtain ⟨b, eb, hb, hge⟩ := hW.b h12
    rw [h14] at hW hb
    have hW2 := hW
    rw [eb] at hW2
    have HW := Lib.hid hW2
    have HGE := Lib.hid hge
    have HB := Lib.hid hb
    clear hW hW2 hD h12 h14 hge hb
    refine wpList_mid_but rfl 62 _ _ rfl b 0 #[.string nm, .int .i64 1, .int .i64 lm, .int .i64 wk, .int .i64 fade] [] [.string ⟨#[]⟩, .int .i64 0, .int .i64 0, .int .i64 0, .int .i64 0] 62 HB.out rfl eb rfl info62 (by simp) (by simp [Value.oneCell']) ?_
    intro w5 hg5 hb5
    have HN := HW.out.st2 HGE.out HB.out hg5 hb5
    rw [← eb] at HN
    have HN2 := Lib.hid HN
    clear HN hg5 hb5 eb
    go_wp2
    exact HRR.out _ HN2.out
  case hnp => rfl
  case hv => first | exact ⟨_, fun _ => rfl⟩ | exact ⟨undef, fun _ => rfl⟩
  apply obl_nil
  intro D y w4 hall hW
  obtain ⟨b3, eb3, hb3, -⟩ := hW.a (hall 11 (by decide))
  obtain ⟨b2, eb2, hb2, -⟩ := hW.b (hall 12 (by decide))
  rw [hall 13 (by decide)] at hb3
  rw [hall 14 (by decide)] at hb2
  simp only [if_true] at hb2 hb3
  have C4 := Lib.hid (C3.out.call hW.bel)
  have HB4 := Lib.hid hW.bel
  have HC2 := Lib.hid hb2
  have HC3 := Lib.hid hb3
  clear hW hall hb2 hb3 y1 y2 y3 y4 y5 hc0 hcell
  rw [eb2, eb3]
  clear eb2 eb3
  have HC4 := Lib.hid (C4.out.get 1 rfl)
  have q3 := (HB4.out.cell (p := ⟨g kl, _, none⟩) HGK.out).trans HQ.out.1
  have q4 := (HB4.out.cell (p := ⟨g kl, _, none⟩) HGK.out).trans HQ.out.2.1
  have q5 := (HB4.out.cell (p := ⟨g kl, _, none⟩) HGK.out).trans HQ.out.2.2
  have g4 : g kl < w4.heap.size := Nat.lt_of_lt_of_le HGK.out HB4.out.size
  have p3 := cell_of_row _ _ 0 _ _ _ HC3.out
  have hb3l := block_lt HC3.out
  have HQ3 := Lib.hid q3
  have hdt5 : (dt : Int) < 5 := by omega
  go_wp2_with fail
  refine wp_region_inv0 (by kernel_rfl) (by kernel_rfl) (fun D w' => Bs w4 [] w') ((Bs.nil w4).drew) ?_
  iterate 8
    (apply obl_det
     case hrun =>
       intro D y wz hW hD R hR
       have HRR := Lib.hid hR
       clear hR
       have HW := Lib.hid hW
       have hc2 := (cellB HW.out.bel).1
       clear hW hD
       go_wp2
       exact HRR.out _ HW.out
     case hnp => rfl
     case hv => first | exact ⟨_, fun _ => rfl⟩ | exact ⟨undef, fun _ => rfl⟩)
  apply obl_det
  case hrun =>
    intro D y wz hW hD R hR
    have HRR := Lib.hid hR
    clear hR
    have HW := Lib.hid hW
    have hc2 := (cellB HW.out.bel).1
    clear hW hD
    go_wp2_with fail
    refine (after_any b2 b3 (w.heap.size + 1) (g kl) nm 1 lm wk fade mlo wt shows HP1.out wz (block_keep HC2.out HW.out.bel) (block_keep HC3.out HW.out.bel) (block_keep HC4.out HW.out.bel) ((HW.out.bel.cell (p := ⟨g kl, _, none⟩) g4).trans HQ3.out) (Nat.lt_of_lt_of_le g4 HW.out.bel.size)).mono ?_
    rintro e w' ⟨rfl, hb⟩
    have HW2 := Lib.hid (HW.out.call hb)
    clear hb
    go_wp2_with fail
    exact HRR.out _ HW2.out
  case hnp => rfl
  case hv => first | exact ⟨_, fun _ => rfl⟩ | exact ⟨undef, fun _ => rfl⟩
  iterate 8
    (apply obl_det
     case hrun =>
       intro D y wz hW hD R hR
       have HRR := Lib.hid hR
       clear hR
       have HW := Lib.hid hW
       have hc2 := (cellB HW.out.bel).1
       clear hW hD
       go_wp2
       exact HRR.out _ HW.out
     case hnp => rfl
     case hv => first | exact ⟨_, fun _ => rfl⟩ | exact ⟨undef, fun _ => rfl⟩)
  apply obl_det
  case hrun =>
    intro D y wz hW hD R hR
    have HRR := Lib.hid hR
    clear hR
    have HW := Lib.hid hW
    have hc2 := (cellB HW.out.bel).1
    clear hW hD
    go_wp2_with fail
    refine (after_any b2 b3 (w.heap.size + 1) (g kl) nm 1 lm wk fade mhi wt shows HP2.out wz (block_keep HC2.out HW.out.bel) (block_keep HC3.out HW.out.bel) (block_keep HC4.out HW.out.bel) ((HW.out.bel.cell (p := ⟨g kl, _, none⟩) g4).trans HQ3.out) (Nat.lt_of_lt_of_le g4 HW.out.bel.size)).mono ?_
    rintro e w' ⟨rfl, hb⟩
    have HW2 := Lib.hid (HW.out.call hb)
    clear hb
    go_wp2_with fail
    exact HRR.out _ HW2.out
  case hnp => rfl
  case hv => first | exact ⟨_, fun _ => rfl⟩ | exact ⟨undef, fun _ => rfl⟩
  iterate 3
    (apply obl_det
     case hrun =>
       intro D y wz hW hD R hR
       have HRR := Lib.hid hR
       clear hR
       have HW := Lib.hid hW
       have hc2 := (cellB HW.out.bel).1
       clear hW hD
       go_wp2
       exact HRR.out _ HW.out
     case hnp => rfl
     case hv => first | exact ⟨_, fun _ => rfl⟩ | exact ⟨undef, fun _ => rfl⟩)
  apply obl_nil
  intro D y w8 hall hW
  clear hall
  have HBF := Lib.hid hW.bel
  clear hW
  go_wp2_with fail
  go_ret3
  rw [HCV.out]
  exact ⟨rfl, C4.out.bel.trans (HBF.out.mono C4.out.bel.size)⟩
end Go.Proofs.Ytaigbhhmmdfdcaa
