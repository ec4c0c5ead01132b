/- blend.Value at the example's waxes. -/
import Derived.Deep.Cut
import Derived.Deep.CutBlock
import Derived.Test.YtohglbfeahofhaaGreatD14
import Derived.Test.YtohglbfeahofhaaGreatD6
namespace Go.Proofs.YtohglbfeahofhaaGreat
open Go.RowKit
section
variable {P : Program}
theorem results_row2_tmp2 {fn : Func} {p q u z : Tmp} {T1 T2 : TypeId} (h : fn.results = #[.cell p T1, .cell q T2, .tmp u, .tmp z]) (tmps : Array Value) (w : World) (g1 g2 : Nat) (t1 t2 : TypeId) (c1 c2 : Array Value) (d1 d2 : TypeDesc) (v v2 : Value)
    (hp : tmps.getD p undef = .pointer (some ⟨g1, 0, none⟩)) (hq : tmps.getD q undef = .pointer (some ⟨g2, 0, none⟩)) (hv : tmps.getD u undef = v) (hv2 : tmps.getD z undef = v2) (hg1 : w.heap[g1]? = some (.cells c1 t1)) (hg2 : w.heap[g2]? = some (.cells c2 t2))
    (hu1 : P.underlying T1 = some d1) (hu2 : P.underlying T2 = some d2) (hd1 : (match d1 with | .struct _ | .array _ _ => true | _ => false) = true) (hd2 : (match d2 with | .struct _ | .array _ _ => true | _ => false) = true)
    (hi1 : (P.info? T1).map (·.size) = some c1.size) (hi2 : (P.info? T2).map (·.size) = some c2.size) :
    (results fn tmps).run P w = .ok (.tuple #[.agg c1, .agg c2, v, v2]) w := by
  have hp' : tmps[p]?.getD undef = .pointer (some ⟨g1, 0, none⟩) := by simpa using hp
  have hq' : tmps[q]?.getD undef = .pointer (some ⟨g2, 0, none⟩) := by simpa using hq
  have hv' : tmps[u]?.getD undef = v := by simpa using hv
  have hv2' : tmps[z]?.getD undef = v2 := by simpa using hv2
  simp [results, h, hp', hq', hv', hv2', asAddr, run_loadVar_row w g1 t1 T1 c1 (0, 0) d1 hg1 hu1 hd1 hi1, run_loadVar_row w g2 t2 T2 c2 (0, 0) d2 hg2 hu2 hd2 hi2]
end
theorem blend_at (l : List BWax) (r : List Int) (h1 : 1 ≤ l.length) (h5 : l.length ≤ 5) (hr : r.length = l.length) (v rv : Value) (w : World) (B : Nat) (hB : w.heap.size = B) (hv : BWaxesIn w.heap.size w v l) (hrv : IntsIn .i64 w.heap.size w rv r) :
    Calls Tryz.prog 45 #[v, rv] w fun e w' => e = .returned (.slice (some ⟨B, 0, none⟩) l.length l.length) ∧ PartsIn w'.heap.size w' (.slice (some ⟨B, 0, none⟩) l.length l.length) (l.zip r) ∧ Below w.heap.size w w' := by
  subst hB
  exact blend_ok l r h1 h5 hr v rv w hv hrv
/-- A recipe's numbers are parts. -/
structure R3 (r : List Int) : Prop where
  len : r.length = 3
  part : ∀ i, i < 3 → 0 ≤ r.getD i 0 ∧ r.getD i 0 ≤ 20
theorem R3.of {r : List Int} (h : ROk 3 r) : R3 r := ⟨h.len, h.part⟩
theorem ex_add3 : ((List.range 21).all fun k => decide (-100000 ≤ addV (exL.getD 2 default).curve (k : Nat) ∧ addV (exL.getD 2 default).curve (k : Nat) ≤ 100000)) = true := by kernel_rfl
theorem ex_add : ∀ i, i < 3 → ∀ n : Int, 0 ≤ n ∧ n ≤ 20 → -100000 ≤ addV (exL.getD i default).curve n ∧ addV (exL.getD i default).curve n ≤ 100000 := by
  intro i hi n hn
  have h3 : i = 0 ∨ i = 1 ∨ i = 2 := by omega
  rcases h3 with rfl | rfl | rfl
  · have e : addV (exL.getD 0 default).curve n = 0 := rfl
    rw [e]; decide
  · have e : addV (exL.getD 1 default).curve n = 0 := rfl
    rw [e]; decide
  · have h := List.all_eq_true.1 ex_add3 n.toNat (List.mem_range.2 (by omega))
    rw [show ((n.toNat : Nat) : Int) = n by omega] at h
    exact of_decide_eq_true h
theorem ex_psok {r : List Int} (h : R3 r) : PsOk (exL.zip r) := by
  intro i hi
  have hl : (exL.zip r).length = 3 := by simp [h.len, exL]
  rw [hl] at hi
  have he : (exL.zip r).getD i default = (exL.getD i default, r.getD i 0) := by
    rw [List.getD_eq_getElem?_getD, List.getD_eq_getElem?_getD, List.getD_eq_getElem?_getD, List.getElem?_eq_getElem (by rw [hl]; exact hi), List.getElem?_eq_getElem (show i < exL.length from hi), List.getElem?_eq_getElem (show i < r.length by rw [h.len]; exact hi)]
    simp
  rw [he]
  have hi3 : i < exL.length := hi
  exact ⟨h.part i hi, exL_ok.price i hi3, exL_ok.melt i hi3, exL_ok.shrink i hi3, ⟨exL_ok.clen i hi3, exL_ok.cpt i hi3, exL_ok.cinc i hi3⟩, ex_add i hi _ (h.part i hi)⟩
theorem ex_pslen {r : List Int} (h : R3 r) : (exL.zip r).length = 3 := by simp [h.len, exL]
structure VW (w : World) (L : List (Nat × Obj)) (ps : List (BWax × Int)) (B n : Nat) (d4 d5 d6 : Bool) (w' : World) : Prop where
  bs : Bs w L w'
  size : d5 = false → d4 = false → w'.heap.size = B
  mono : d6 = true → d5 = true
  parts : d4 = true → d5 = false → PartsIn w'.heap.size w' (.slice (some ⟨B, 0, none⟩) n n) ps
set_option maxRecDepth 100000 in
set_option maxHeartbeats 16000000 in
theorem value_ok {r : List Int} (hr : ROk 3 r) (v rv : Value) (w : World) (hv : BWaxesIn w.heap.size w v exL) (hrv : IntsIn .i64 w.heap.size w rv r) :
    Calls Tryz.prog 17 #[v, rv] w fun e w' => e = .returned (.tuple #[.agg #[.int .i64 (endsV (exL.zip r)).1.1, .int .i64 (endsV (exL.zip r)).1.2], .agg #[.int .i64 (endsV (exL.zip r)).2.1, .int .i64 (endsV (exL.zip r)).2.2], .int .i64 (sumG gPrice (exL.zip r) (exL.zip r).length), .int .i64 0]) ∧ Below w.heap.size w w' := by
  obtain ⟨a, cap, rfl, hcap, -⟩ := sl_shape hv
  obtain ⟨ra, rcap, rfl, -⟩ := id hrv
  have hl3 : exL.length = 3 := rfl
  have HV := Lib.hid hv
  have HRV := Lib.hid hrv
  rw [hl3] at HV ⊢
  rw [hr.len] at HRV ⊢
  have HR := Lib.hid hr
  have HZL := Lib.hid (ex_pslen (R3.of hr))
  have HAS := fun v rv w h1 h2 => Lib.hid (asked_ok exL_ok (r := r) hr v rv w h1 h2)
  have HBL := fun v rv w B hB h1 h2 => Lib.hid (blend_at exL r (by decide) (by decide) hr.len v rv w B hB h1 h2)
  have HEN := fun v w h => Lib.hid (ends_ok (exL.zip r) (ex_psok (R3.of hr)) (by rw [ex_pslen (R3.of hr)]; decide) v w h)
  have HWH := fun v w h => Lib.hid (whole_price (exL.zip r) (ex_psok (R3.of hr)) (by rw [ex_pslen (R3.of hr)]; decide) v w h)
  rw [hl3] at HBL
  generalize exL.zip r = ps at *
  generalize endsV ps = E at *
  obtain ⟨⟨e1, e2⟩, e3, e4⟩ := E
  simp only at HEN ⊢
  generalize sumG gPrice ps ps.length = S at *
  clear hv hrv hr hl3
  have C0 : Hid (Bs w [(w.heap.size, .cells #[.int .i64 0, .int .i64 0] 41), (w.heap.size + 1, .cells #[.int .i64 0, .int .i64 0] 41)] _) := Lib.hid (((Bs.nil w).push _ rfl (.cells #[.int .i64 0, .int .i64 0] 41)).push (w.heap.size + 1) (by simp) (.cells #[.int .i64 0, .int .i64 0] 41))
  go_enter Tryz.func17, Tryz.ntmps17
  go_wp2_with fail
  refine (HAS _ _ _ ((HV.out.below C0.out.bel).mono C0.out.bel.size) ((HRV.out.below C0.out.bel).mono C0.out.bel.size)).out.mono ?_
  rintro e w1 ⟨rfl, hb⟩
  have C1 := Lib.hid (C0.out.call hb)
  clear hb C0
  go_wp2_with fail
  refine (HBL _ _ _ _ rfl ((HV.out.below C1.out.bel).mono C1.out.bel.size) ((HRV.out.below C1.out.bel).mono C1.out.bel.size)).out.mono ?_
  rintro e w2 ⟨rfl, hpp, hb⟩
  have C2 := Lib.hid (C1.out.call hb)
  have HPP := Lib.hid hpp
  clear hb C1 hpp
  go_wp2_with fail
  refine (HEN _ _ HPP.out).out.mono ?_
  rintro e w3 ⟨rfl, hb⟩
  have C3 := Lib.hid (C2.out.call hb)
  clear hb C2 HPP
  go_wp2_with (first | (refine wpList_store_bs rfl 41 _ _ rfl C3.out 0 _ _ _ _ rfl rfl rfl infoSpan rfl (by simp [Value.oneCell']) ?_; intro w4 hC; have C4 : Hid (Bs w [(w.heap.size, .cells #[.int .i64 e1, .int .i64 e2] 41), (w.heap.size + 1, .cells #[.int .i64 0, .int .i64 0] 41)] w4) := hC; clear hC C3) | (refine wpList_store_bs rfl 41 _ _ rfl C4.out 1 _ _ _ _ rfl rfl rfl infoSpan rfl (by simp [Value.oneCell']) ?_; intro w5 hC; have C5 : Hid (Bs w [(w.heap.size, .cells #[.int .i64 e1, .int .i64 e2] 41), (w.heap.size + 1, .cells #[.int .i64 e3, .int .i64 e4] 41)] w5) := hC; clear hC C4; go_upto_region 5 with fail))
  refine wp_region_inv0 (by kernel_rfl) (by kernel_rfl) (fun D w' => VW w [(w.heap.size, .cells #[.int .i64 e1, .int .i64 e2] 41), (w.heap.size + 1, .cells #[.int .i64 e3, .int .i64 e4] 41)] ps w5.heap.size 3 (D 4) (D 5) (D 6) w') ⟨C5.out.drew, fun _ _ => rfl, fun h => (by cases h), fun h => (by cases h)⟩ ?_
  apply obl_det
  case hrun =>
    intro D y wz hW hD R hR
    have HRR := Lib.hid hR
    clear hR
    have HW := Lib.hid hW
    have h1 := HW.out.bs.get 0 rfl
    clear hW hD
    refine wpList_load_row rfl 41 _ rfl _ rfl _ _ _ _ h1 Tryz.underlying41 rfl infoSpan ?_
    go_simp
    exact HRR.out _ HW.out
  case hnp => rfl
  case hv => first | exact ⟨_, fun _ => rfl⟩ | exact ⟨undef, fun _ => rfl⟩
  apply obl_det
  case hrun =>
    intro D y wz hW hD R hR
    have HRR := Lib.hid hR
    clear hR
    have HW := Lib.hid hW
    have h1 := HW.out.bs.get 1 rfl
    clear hW hD
    refine wpList_load_row rfl 41 _ rfl _ rfl _ _ _ _ h1 Tryz.underlying41 rfl infoSpan ?_
    go_simp
    exact HRR.out _ HW.out
  case hnp => rfl
  case hv => first | exact ⟨_, fun _ => rfl⟩ | exact ⟨undef, fun _ => rfl⟩
  iterate 2
    (apply obl_det
     case hrun =>
       intro D y wz hW hD R hR
       have HRR := Lib.hid hR
       clear hR
       have HW := Lib.hid hW
       clear hW hD
       go_wp2
       exact HRR.out _ HW.out
     case hnp => rfl
     case hv => first | exact ⟨_, fun _ => rfl⟩ | exact ⟨undef, fun _ => rfl⟩)
  apply obl_det
  case hrun =>
    intro D y wz hW hD R hR
    have HRR := Lib.hid hR
    clear hR
    have h4 : D 4 = false := hD.not
    have h5 : D 5 = false := hD.post _ 5 rfl (by kernel_rfl)
    rw [h4, h5] at hW
    have H5 := Lib.hid h5
    have HM := Lib.hid hW.mono
    clear h4 h5
    have HW := Lib.hid hW
    clear hW hD
    go_wp2_with fail
    refine (HBL _ _ _ _ (HW.out.size rfl rfl) ((HV.out.below HW.out.bs.bel).mono HW.out.bs.bel.size) ((HRV.out.below HW.out.bs.bel).mono HW.out.bs.bel.size)).out.mono ?_
    rintro e w' ⟨rfl, hpp, hb⟩
    have HPP := Lib.hid hpp
    have C6 := Lib.hid (HW.out.bs.call hb)
    clear hpp hb
    go_wp2_with fail
    refine HRR.out _ ?_
    show VW w [(w.heap.size, .cells #[.int .i64 e1, .int .i64 e2] 41), (w.heap.size + 1, .cells #[.int .i64 e3, .int .i64 e4] 41)] ps w5.heap.size 3 true (D 5) (D 6) w'
    rw [H5.out]
    exact ⟨C6.out, fun _ h => (by cases h), HM.out, fun _ _ => HPP.out⟩
  case hnp => rfl
  case hv => first | exact ⟨_, fun _ => rfl⟩ | exact ⟨undef, fun _ => rfl⟩
  apply obl_det
  case hrun =>
    intro D y wz hW hD R hR
    have HRR := Lib.hid hR
    clear hR
    have h4 : D 4 = true := hD.pre _ 4 rfl (by kernel_rfl)
    have h5 : D 5 = false := hD.not
    rw [h4, h5] at hW
    have H4 := Lib.hid h4
    clear h4 h5
    have HW := Lib.hid hW
    clear hW hD
    go_wp2_with fail
    refine (HWH _ _ (HW.out.parts rfl rfl)).out.mono ?_
    rintro e w' ⟨rfl, hb⟩
    have C6 := Lib.hid (HW.out.bs.call hb)
    clear hb
    go_wp2_with fail
    refine HRR.out _ ?_
    show VW w [(w.heap.size, .cells #[.int .i64 e1, .int .i64 e2] 41), (w.heap.size + 1, .cells #[.int .i64 e3, .int .i64 e4] 41)] ps w5.heap.size 3 (D 4) true (D 6) w'
    rw [H4.out]
    exact ⟨C6.out, fun h => (by cases h), fun _ => rfl, fun _ h => (by cases h)⟩
  case hnp => rfl
  case hv => first | exact ⟨_, fun _ => rfl⟩ | exact ⟨undef, fun _ => rfl⟩
  apply obl_det
  case hrun =>
    intro D y wz hW hD R hR
    have HRR := Lib.hid hR
    clear hR
    have h5 : D 5 = true := hD.pre _ 5 rfl (by kernel_rfl)
    have hW := hW.bs
    have H5 := Lib.hid h5
    clear h5
    have HW := Lib.hid hW
    clear hW hD
    refine wpList_store_bs rfl 41 _ _ rfl HW.out 0 _ #[.int .i64 e1, .int .i64 e2] _ _ rfl rfl rfl infoSpan rfl (by simp [Value.oneCell']) ?_
    intro w' hw'
    go_simp
    refine HRR.out _ ?_
    show VW w [(w.heap.size, .cells #[.int .i64 e1, .int .i64 e2] 41), (w.heap.size + 1, .cells #[.int .i64 e3, .int .i64 e4] 41)] ps w5.heap.size 3 (D 4) (D 5) true w'
    rw [H5.out]
    exact ⟨hw', fun h => (by cases h), fun _ => rfl, fun _ h => (by cases h)⟩
  case hnp => rfl
  case hv => first | exact ⟨_, fun _ => rfl⟩ | exact ⟨undef, fun _ => rfl⟩
  apply obl_det
  case hrun =>
    intro D y wz hW hD R hR
    have HRR := Lib.hid hR
    clear hR
    have h5 : D 5 = true := hW.mono (hD.pre _ 6 rfl (by kernel_rfl))
    have hW := hW.bs
    have H5 := Lib.hid h5
    clear h5
    have HW := Lib.hid hW
    clear hW hD
    refine wpList_store_bs rfl 41 _ _ rfl HW.out 1 _ #[.int .i64 e3, .int .i64 e4] _ _ rfl rfl rfl infoSpan rfl (by simp [Value.oneCell']) ?_
    intro w' hw'
    go_simp
    refine HRR.out _ ?_
    show VW w [(w.heap.size, .cells #[.int .i64 e1, .int .i64 e2] 41), (w.heap.size + 1, .cells #[.int .i64 e3, .int .i64 e4] 41)] ps w5.heap.size 3 (D 4) (D 5) (D 6) w'
    rw [H5.out]
    exact ⟨hw', fun h => (by cases h), fun _ => rfl, fun _ h => (by cases h)⟩
  case hnp => rfl
  case hv => first | exact ⟨_, fun _ => rfl⟩ | exact ⟨undef, fun _ => rfl⟩
  iterate 2
    (apply obl_det
     case hrun =>
       intro D y wz hW hD R hR
       have HRR := Lib.hid hR
       clear hR
       have HW := Lib.hid hW
       clear hW hD
       go_wp2
       exact HRR.out _ HW.out
     case hnp => rfl
     case hv => first | exact ⟨_, fun _ => rfl⟩ | exact ⟨undef, fun _ => rfl⟩)
  apply obl_nil
  intro D y w8 hall hW
  have C8 := Lib.hid hW.bs
  clear hW hall C5
  go_wp2_with fail
  exact bodyPost_ret (results_row2_tmp2 (fn := Tryz.f17) rfl _ _ _ _ _ _ _ _ _ _ _ _ rfl rfl rfl rfl (C8.out.get 0 rfl) (C8.out.get 1 rfl) Tryz.underlying41 Tryz.underlying41 rfl rfl infoSpan infoSpan) rfl ⟨rfl, C8.out.bel⟩
end Go.Proofs.YtohglbfeahofhaaGreat
