/- The check of one store of a season (the closure of Check). -/
import Derived.Test.YtddapabmfecidaaW6
namespace Go.Proofs.Ytddapabmfecidaa
open Go.RowKit

theorem hne_cast {n m : Nat} {r : Bool} (h : (n != m) = r) : ((n : Int) != (m : Int)) = r := by
  rw [← h, Bool.eq_iff_iff]; simp only [bne_iff_ne, ne_eq]; omega

/-- The error of a store. -/
def stoE (l : List Sto) (i : Nat) : Int :=
  if nameB (l.getD i default).name then
    if (l.take i).any (nameIs (l.getD i default).name) then 5
    else if outB 0 100000 [(l.getD i default).rent] then 7
    else if outB 1 8 [((l.getD i default).warm.length : Int)] || ((l.getD i default).warm.length != (l.getD 0 default).warm.length) then 3
    else spansE (l.getD i default).warm
  else 6

set_option maxRecDepth 100000 in
set_option maxHeartbeats 8000000 in
theorem check1_aux (x : Sto) (av a0 : Option Addr) (n n0 cv c0 bb ob c : Nat) (l : List Sto) (i bs : Nat) (w : World) (hv : StosIn w.heap.size w (.slice (some ⟨bb, ob, none⟩) l.length c) l) (hi : i < l.length) (hlc : l.length ≤ c) (hll : l.length ≤ 1000000000000000)
    (hx : l.getD i default = x) (hw : SpansIn w.heap.size w (.slice av n cv) x.warm) (hbb : bb < w.heap.size) (h0 : w.cell? ⟨bb, ob + 2, none⟩ = some (.slice a0 n0 c0)) (hn' : x.warm.length = n) (hn0 : (l.getD 0 default).warm.length = n0)
    (hz : x.name.size ≤ 1000000000000000) (_hnl : n ≤ 1000000000000000) (hbs : bs < w.heap.size) (hc5 : w.cell? ⟨bs, 5, none⟩ = some (.slice (some ⟨bb, ob, none⟩) l.length c)) :
    Calls Try.prog 53 #[.int .i64 i, .agg #[.string x.name, .int .i64 x.rent, .slice av n cv], .pointer (some ⟨bs, 0, none⟩)] w fun e w' => e = .returned (.int .i64 (stoE l i)) ∧ Below w.heap.size w w' := by
  have HX := Lib.hid hx
  have HV := Lib.hid hv
  have HW := Lib.hid hw
  have HN' := Lib.hid hn'
  have HN0 := Lib.hid hn0
  have hic : i ≤ c := by omega
  obtain ⟨nb, hn⟩ : ∃ n, nameB x.name = n := ⟨_, rfl⟩
  obtain ⟨q, hq⟩ : ∃ q, (l.take i).any (nameIs x.name) = q := ⟨_, rfl⟩
  obtain ⟨r1, hr1⟩ : ∃ r1, outB 0 100000 [x.rent] = r1 := ⟨_, rfl⟩
  obtain ⟨r2, hr2⟩ : ∃ r2, outB 1 8 [(n : Int)] = r2 := ⟨_, rfl⟩
  obtain ⟨r3, hr3⟩ : ∃ r3, (n != n0) = r3 := ⟨_, rfl⟩
  have HE : Hid (stoE l i = if nb then if q then 5 else if r1 then 7 else if r2 || r3 then 3 else spansE x.warm else 6) := by
    unfold Hid stoE; rw [HX.out, hn, hq, hr1, hn', hn0, hr2, hr3]
  have HA := (Below.refl w.heap.size w).alloc (Nat.le_refl _) (.cells #[.string x.name, .int .i64 x.rent, .slice av n cv] 66)
  have HN := Lib.hid hn
  have HQ := Lib.hid hq
  have HR1 := Lib.hid hr1
  have HR2 := Lib.hid hr2
  have HR3 := Lib.hid hr3
  clear hx hw hv hn' hn0 hn hq hr1 hr2 hr3
  cases nb
  · go_enter Try.func53, Try.ntmps53
    go_wp2_with (first | (go_at_call 54; refine (name_r _ _ _ hz HN.out).mono ?_; rintro e w1 ⟨rfl, hbw⟩; have HB1 := Lib.hid (HA.trans (hbw.mono (by simp))); have hc51 := (HB1.out.cell (p := ⟨bs, 5, none⟩) hbs).trans hc5; have hx1 := block_keep (heap_alloc_new w _) hbw; have cx1 := fun i => cell_of_row w1 _ i _ _ _ hx1; have HX1 := Lib.hid hx1; clear hx1 hbw))
    go_ret
    exact ⟨ret_int HE.out.symm, HB1.out⟩
  · cases q
    rotate_left
    · go_enter Try.func53, Try.ntmps53
      go_wp2_with (first | (go_at_call 54; refine (name_r _ _ _ hz HN.out).mono ?_; rintro e w1 ⟨rfl, hbw⟩; have HB1 := Lib.hid (HA.trans (hbw.mono (by simp))); have hc51 := (HB1.out.cell (p := ⟨bs, 5, none⟩) hbs).trans hc5; have hx1 := block_keep (heap_alloc_new w _) hbw; have cx1 := fun i => cell_of_row w1 _ i _ _ _ hx1; have HX1 := Lib.hid hx1; clear hx1 hbw) | (go_at_call 55; refine (containsSto_any _ (l.take i) _ x.name _ _ _ ((HV.out.below HB1.out).take i (by omega)) HB1.out.size (cx1 0) (block_lt HX1.out) HQ.out).mono ?_; rintro e w2 ⟨rfl, hbw⟩; have HB2 := Lib.hid (HB1.out.trans (hbw.mono HB1.out.size)); have hc52 := (HB2.out.cell (p := ⟨bs, 5, none⟩) hbs).trans hc5; have hx2 := block_keep HX1.out hbw; have cx2 := fun i => cell_of_row w2 _ i _ _ _ hx2; have HX2 := Lib.hid hx2; have HI2 := Lib.hid (intsIn_new w2 _ rfl [x.rent] (by simp) 1 rfl); clear hx2 hbw cx1 hc51))
      go_ret
      exact ⟨ret_int HE.out.symm, HB2.out⟩
    · cases r1
      rotate_left
      · go_enter Try.func53, Try.ntmps53
        go_wp2_with (first | (go_at_call 54; refine (name_r _ _ _ hz HN.out).mono ?_; rintro e w1 ⟨rfl, hbw⟩; have HB1 := Lib.hid (HA.trans (hbw.mono (by simp))); have hc51 := (HB1.out.cell (p := ⟨bs, 5, none⟩) hbs).trans hc5; have hx1 := block_keep (heap_alloc_new w _) hbw; have cx1 := fun i => cell_of_row w1 _ i _ _ _ hx1; have HX1 := Lib.hid hx1; clear hx1 hbw) | (go_at_call 55; refine (containsSto_any _ (l.take i) _ x.name _ _ _ ((HV.out.below HB1.out).take i (by omega)) HB1.out.size (cx1 0) (block_lt HX1.out) HQ.out).mono ?_; rintro e w2 ⟨rfl, hbw⟩; have HB2 := Lib.hid (HB1.out.trans (hbw.mono HB1.out.size)); have hc52 := (HB2.out.cell (p := ⟨bs, 5, none⟩) hbs).trans hc5; have hx2 := block_keep HX1.out hbw; have cx2 := fun i => cell_of_row w2 _ i _ _ _ hx2; have HX2 := Lib.hid hx2; have HI2 := Lib.hid (intsIn_new w2 _ rfl [x.rent] (by simp) 1 rfl); clear hx2 hbw cx1 hc51) | (go_at_call 35; refine (out_r _ 0 100000 _ HR1.out _ _ _ HI2.out (by simp)).mono ?_; rintro e w3 ⟨rfl, hbw⟩; have HB3 := Lib.hid (HB2.out.trans (((Below.refl w2.heap.size w2).alloc (Nat.le_refl _) _).mono HB2.out.size |>.trans (hbw.mono (by have := HB2.out.size; simp; omega)))); have hc53 := (HB3.out.cell (p := ⟨bs, 5, none⟩) hbs).trans hc5; have hx3 := block_keep ((heap_alloc_old w2 _ (block_lt HX2.out)).trans HX2.out) hbw; have cx3 := fun i => cell_of_row w3 _ i _ _ _ hx3; have HX3 := Lib.hid hx3; clear hx3 hbw cx2 hc52))
        go_ret
        exact ⟨ret_int HE.out.symm, HB3.out⟩
      · have h0l : 0 < l.length := by omega
        cases r2
        case true =>
          go_enter Try.func53, Try.ntmps53
          go_wp2_with (first | (go_at_call 54; refine (name_r _ _ _ hz HN.out).mono ?_; rintro e w1 ⟨rfl, hbw⟩; have HB1 := Lib.hid (HA.trans (hbw.mono (by simp))); have hc51 := (HB1.out.cell (p := ⟨bs, 5, none⟩) hbs).trans hc5; have hx1 := block_keep (heap_alloc_new w _) hbw; have cx1 := fun i => cell_of_row w1 _ i _ _ _ hx1; have HX1 := Lib.hid hx1; clear hx1 hbw) | (go_at_call 55; refine (containsSto_any _ (l.take i) _ x.name _ _ _ ((HV.out.below HB1.out).take i (by omega)) HB1.out.size (cx1 0) (block_lt HX1.out) HQ.out).mono ?_; rintro e w2 ⟨rfl, hbw⟩; have HB2 := Lib.hid (HB1.out.trans (hbw.mono HB1.out.size)); have hc52 := (HB2.out.cell (p := ⟨bs, 5, none⟩) hbs).trans hc5; have hx2 := block_keep HX1.out hbw; have cx2 := fun i => cell_of_row w2 _ i _ _ _ hx2; have HX2 := Lib.hid hx2; have HI2 := Lib.hid (intsIn_new w2 _ rfl [x.rent] (by simp) 1 rfl); clear hx2 hbw cx1 hc51) | (go_at_call 35; refine (out_r _ 0 100000 _ HR1.out _ _ _ HI2.out (by simp)).mono ?_; rintro e w3 ⟨rfl, hbw⟩; have HB3 := Lib.hid (HB2.out.trans (((Below.refl w2.heap.size w2).alloc (Nat.le_refl _) _).mono HB2.out.size |>.trans (hbw.mono (by have := HB2.out.size; simp; omega)))); have hc53 := (HB3.out.cell (p := ⟨bs, 5, none⟩) hbs).trans hc5; have hx3 := block_keep ((heap_alloc_old w2 _ (block_lt HX2.out)).trans HX2.out) hbw; have cx3 := fun i => cell_of_row w3 _ i _ _ _ hx3; have HX3 := Lib.hid hx3; clear hx3 hbw cx2 hc52))
          have hbs3 : bs < w3.heap.size := by have := HB3.out.size; omega
          have hbb3 : bb < w3.heap.size := by have := HB3.out.size; omega
          have h03 := (HB3.out.cell (p := ⟨bb, ob + 2, none⟩) hbb).trans h0
          refine wp_region_inv1 (by kernel_rfl) (by kernel_rfl) [29] (fun D y w' => Below w3.heap.size w3 w' ∧ (D 3 = true → IntsIn .i64 w'.heap.size w' (y 29) [(n : Int)])) ⟨(Below.refl _ _).drew, fun h => absurd h (by simp)⟩ ?F0 ?hF0 ?_
          case hF0 =>
            intro y
            simp only [fill, List.foldl, Act.put, List.setIfInBounds_toArray, List.set]
            exact rfl
          iterate 3
            (apply obl_det
             case hrun =>
               intro D y wz hW hD R hR
               have HR := Lib.hid hR
               clear hR
               obtain ⟨hb, hI⟩ := hW
               have HWz := Lib.hid (And.intro hb hI)
               have hc5z := (hb.cell (p := ⟨bs, 5, none⟩) hbs3).trans hc53
               have h0z := (hb.cell (p := ⟨bb, ob + 2, none⟩) hbb3).trans h03
               have cxz := fun i => cell_of_row wz _ i _ _ _ (block_keep HX3.out hb)
               clear hb hI hD
               go_wp2
               exact HR.out _ HWz.out
             case hnp => rfl
             case hv => first | exact ⟨_, fun _ => rfl⟩ | exact ⟨undef, fun _ => rfl⟩)
          apply obl_priv 29
          case hd => rfl
          case hp => rfl
          case hrun =>
            intro D y wz hW hD R hR
            have HR := Lib.hid hR
            clear hR hD
            obtain ⟨hb, hI⟩ := hW
            go_wp2
            exact HR.out _ _ ⟨hb.alloc hb.size _, fun _ => (intsIn_new wz _ rfl [(n : Int)] (by simp) 1 rfl).mono (by simp)⟩
          apply obl_det
          case hrun =>
            intro D y wz hW hD R hR
            have HR := Lib.hid hR
            clear hR
            obtain ⟨hb, hI⟩ := hW
            have hI3 := hI (hD.pre _ 3 rfl (by kernel_rfl))
            have HI3 := Lib.hid hI3
            have HB := Lib.hid hb
            have HI := Lib.hid hI
            clear hb hI hD hI3
            go_wp2_with (go_at_call 35; refine (out_r _ 1 8 _ HR2.out _ _ _ HI3.out (Nat.le_refl _)).mono ?_; rintro e w' ⟨rfl, hbw⟩)
            exact HR.out _ ⟨HB.out.trans (hbw.mono HB.out.size), fun h => (((HI.out h).below hbw).mono hbw.size)⟩
          case hnp => rfl
          case hv => first | exact ⟨_, fun _ => rfl⟩ | exact ⟨undef, fun _ => rfl⟩
          iterate 13
            (apply obl_det
             case hrun =>
               intro D y wz hW hD R hR
               have HR := Lib.hid hR
               clear hR
               obtain ⟨hb, hI⟩ := hW
               have HWz := Lib.hid (And.intro hb hI)
               have hc5z := (hb.cell (p := ⟨bs, 5, none⟩) hbs3).trans hc53
               have h0z := (hb.cell (p := ⟨bb, ob + 2, none⟩) hbb3).trans h03
               have cxz := fun i => cell_of_row wz _ i _ _ _ (block_keep HX3.out hb)
               clear hb hI hD
               go_wp2
               exact HR.out _ HWz.out
             case hnp => rfl
             case hv => first | exact ⟨_, fun _ => rfl⟩ | exact ⟨undef, fun _ => rfl⟩)
          apply obl_nil
          intro D y w4 hall hW
          obtain ⟨hb4, hI4⟩ := hW
          have HB4 := Lib.hid (HB3.out.trans (hb4.mono HB3.out.size))
          have hx4 := block_keep HX3.out hb4
          have cx4 := fun i => cell_of_row w4 _ i _ _ _ hx4
          clear hI4 hall hb4 hx4 cx3 hc53 h03 hc5 h0
          simp only [Exit.then]
          go_wp2_with fail
          go_ret
          exact ⟨ret_int HE.out.symm, HB4.out⟩
        case false =>
          cases r3
          case true =>
            have HNE := Lib.hid (hne_cast HR3.out)
            go_enter Try.func53, Try.ntmps53
            go_wp2_with (first | (go_at_call 54; refine (name_r _ _ _ hz HN.out).mono ?_; rintro e w1 ⟨rfl, hbw⟩; have HB1 := Lib.hid (HA.trans (hbw.mono (by simp))); have hc51 := (HB1.out.cell (p := ⟨bs, 5, none⟩) hbs).trans hc5; have hx1 := block_keep (heap_alloc_new w _) hbw; have cx1 := fun i => cell_of_row w1 _ i _ _ _ hx1; have HX1 := Lib.hid hx1; clear hx1 hbw) | (go_at_call 55; refine (containsSto_any _ (l.take i) _ x.name _ _ _ ((HV.out.below HB1.out).take i (by omega)) HB1.out.size (cx1 0) (block_lt HX1.out) HQ.out).mono ?_; rintro e w2 ⟨rfl, hbw⟩; have HB2 := Lib.hid (HB1.out.trans (hbw.mono HB1.out.size)); have hc52 := (HB2.out.cell (p := ⟨bs, 5, none⟩) hbs).trans hc5; have hx2 := block_keep HX1.out hbw; have cx2 := fun i => cell_of_row w2 _ i _ _ _ hx2; have HX2 := Lib.hid hx2; have HI2 := Lib.hid (intsIn_new w2 _ rfl [x.rent] (by simp) 1 rfl); clear hx2 hbw cx1 hc51) | (go_at_call 35; refine (out_r _ 0 100000 _ HR1.out _ _ _ HI2.out (by simp)).mono ?_; rintro e w3 ⟨rfl, hbw⟩; have HB3 := Lib.hid (HB2.out.trans (((Below.refl w2.heap.size w2).alloc (Nat.le_refl _) _).mono HB2.out.size |>.trans (hbw.mono (by have := HB2.out.size; simp; omega)))); have hc53 := (HB3.out.cell (p := ⟨bs, 5, none⟩) hbs).trans hc5; have hx3 := block_keep ((heap_alloc_old w2 _ (block_lt HX2.out)).trans HX2.out) hbw; have cx3 := fun i => cell_of_row w3 _ i _ _ _ hx3; have HX3 := Lib.hid hx3; clear hx3 hbw cx2 hc52))
            have hbs3 : bs < w3.heap.size := by have := HB3.out.size; omega
            have hbb3 : bb < w3.heap.size := by have := HB3.out.size; omega
            have h03 := (HB3.out.cell (p := ⟨bb, ob + 2, none⟩) hbb).trans h0
            refine wp_region_inv1 (by kernel_rfl) (by kernel_rfl) [29] (fun D y w' => Below w3.heap.size w3 w' ∧ (D 3 = true → IntsIn .i64 w'.heap.size w' (y 29) [(n : Int)])) ⟨(Below.refl _ _).drew, fun h => absurd h (by simp)⟩ ?F1 ?hF1 ?_
            case hF1 =>
              intro y
              simp only [fill, List.foldl, Act.put, List.setIfInBounds_toArray, List.set]
              exact rfl
            iterate 3
              (apply obl_det
               case hrun =>
                 intro D y wz hW hD R hR
                 have HR := Lib.hid hR
                 clear hR
                 obtain ⟨hb, hI⟩ := hW
                 have HWz := Lib.hid (And.intro hb hI)
                 have hc5z := (hb.cell (p := ⟨bs, 5, none⟩) hbs3).trans hc53
                 have h0z := (hb.cell (p := ⟨bb, ob + 2, none⟩) hbb3).trans h03
                 have cxz := fun i => cell_of_row wz _ i _ _ _ (block_keep HX3.out hb)
                 clear hb hI hD
                 go_wp2
                 exact HR.out _ HWz.out
               case hnp => rfl
               case hv => first | exact ⟨_, fun _ => rfl⟩ | exact ⟨undef, fun _ => rfl⟩)
            apply obl_priv 29
            case hd => rfl
            case hp => rfl
            case hrun =>
              intro D y wz hW hD R hR
              have HR := Lib.hid hR
              clear hR hD
              obtain ⟨hb, hI⟩ := hW
              go_wp2
              exact HR.out _ _ ⟨hb.alloc hb.size _, fun _ => (intsIn_new wz _ rfl [(n : Int)] (by simp) 1 rfl).mono (by simp)⟩
            apply obl_det
            case hrun =>
              intro D y wz hW hD R hR
              have HR := Lib.hid hR
              clear hR
              obtain ⟨hb, hI⟩ := hW
              have hI3 := hI (hD.pre _ 3 rfl (by kernel_rfl))
              have HI3 := Lib.hid hI3
              have HB := Lib.hid hb
              have HI := Lib.hid hI
              clear hb hI hD hI3
              go_wp2_with (go_at_call 35; refine (out_r _ 1 8 _ HR2.out _ _ _ HI3.out (Nat.le_refl _)).mono ?_; rintro e w' ⟨rfl, hbw⟩)
              exact HR.out _ ⟨HB.out.trans (hbw.mono HB.out.size), fun h => (((HI.out h).below hbw).mono hbw.size)⟩
            case hnp => rfl
            case hv => first | exact ⟨_, fun _ => rfl⟩ | exact ⟨undef, fun _ => rfl⟩
            iterate 10
              (apply obl_det
               case hrun =>
                 intro D y wz hW hD R hR
                 have HR := Lib.hid hR
                 clear hR
                 obtain ⟨hb, hI⟩ := hW
                 have HWz := Lib.hid (And.intro hb hI)
                 have hc5z := (hb.cell (p := ⟨bs, 5, none⟩) hbs3).trans hc53
                 have h0z := (hb.cell (p := ⟨bb, ob + 2, none⟩) hbb3).trans h03
                 have cxz := fun i => cell_of_row wz _ i _ _ _ (block_keep HX3.out hb)
                 clear hb hI hD
                 go_wp2
                 exact HR.out _ HWz.out
               case hnp => rfl
               case hv => first | exact ⟨_, fun _ => rfl⟩ | exact ⟨undef, fun _ => rfl⟩)
            apply obl_det
            case hrun =>
              intro D y wz hW hD R hR
              have HR := Lib.hid hR
              clear hR
              obtain ⟨hb, hI⟩ := hW
              have HWz := Lib.hid (And.intro hb hI)
              have hc5z := (hb.cell (p := ⟨bs, 5, none⟩) hbs3).trans hc53
              have h0z := (hb.cell (p := ⟨bb, ob + 2, none⟩) hbb3).trans h03
              have cxz := fun i => cell_of_row wz _ i _ _ _ (block_keep HX3.out hb)
              clear hb hI hD
              have hne := HNE.out
              go_wp2
              exact HR.out _ HWz.out
            case hnp => rfl
            case hv => first | exact ⟨_, fun _ => rfl⟩ | exact ⟨undef, fun _ => rfl⟩
            iterate 2
              (apply obl_det
               case hrun =>
                 intro D y wz hW hD R hR
                 have HR := Lib.hid hR
                 clear hR
                 obtain ⟨hb, hI⟩ := hW
                 have HWz := Lib.hid (And.intro hb hI)
                 have hc5z := (hb.cell (p := ⟨bs, 5, none⟩) hbs3).trans hc53
                 have h0z := (hb.cell (p := ⟨bb, ob + 2, none⟩) hbb3).trans h03
                 have cxz := fun i => cell_of_row wz _ i _ _ _ (block_keep HX3.out hb)
                 clear hb hI hD
                 go_wp2
                 exact HR.out _ HWz.out
               case hnp => rfl
               case hv => first | exact ⟨_, fun _ => rfl⟩ | exact ⟨undef, fun _ => rfl⟩)
            apply obl_nil
            intro D y w4 hall hW
            obtain ⟨hb4, hI4⟩ := hW
            have HB4 := Lib.hid (HB3.out.trans (hb4.mono HB3.out.size))
            have hx4 := block_keep HX3.out hb4
            have cx4 := fun i => cell_of_row w4 _ i _ _ _ hx4
            clear hI4 hall hb4 hx4 cx3 hc53 h03 hc5 h0
            simp only [Exit.then]
            go_wp2_with fail
            go_ret
            exact ⟨ret_int HE.out.symm, HB4.out⟩
          case false =>
            have HNE := Lib.hid (hne_cast HR3.out)
            go_enter Try.func53, Try.ntmps53
            go_wp2_with (first | (go_at_call 54; refine (name_r _ _ _ hz HN.out).mono ?_; rintro e w1 ⟨rfl, hbw⟩; have HB1 := Lib.hid (HA.trans (hbw.mono (by simp))); have hc51 := (HB1.out.cell (p := ⟨bs, 5, none⟩) hbs).trans hc5; have hx1 := block_keep (heap_alloc_new w _) hbw; have cx1 := fun i => cell_of_row w1 _ i _ _ _ hx1; have HX1 := Lib.hid hx1; clear hx1 hbw) | (go_at_call 55; refine (containsSto_any _ (l.take i) _ x.name _ _ _ ((HV.out.below HB1.out).take i (by omega)) HB1.out.size (cx1 0) (block_lt HX1.out) HQ.out).mono ?_; rintro e w2 ⟨rfl, hbw⟩; have HB2 := Lib.hid (HB1.out.trans (hbw.mono HB1.out.size)); have hc52 := (HB2.out.cell (p := ⟨bs, 5, none⟩) hbs).trans hc5; have hx2 := block_keep HX1.out hbw; have cx2 := fun i => cell_of_row w2 _ i _ _ _ hx2; have HX2 := Lib.hid hx2; have HI2 := Lib.hid (intsIn_new w2 _ rfl [x.rent] (by simp) 1 rfl); clear hx2 hbw cx1 hc51) | (go_at_call 35; refine (out_r _ 0 100000 _ HR1.out _ _ _ HI2.out (by simp)).mono ?_; rintro e w3 ⟨rfl, hbw⟩; have HB3 := Lib.hid (HB2.out.trans (((Below.refl w2.heap.size w2).alloc (Nat.le_refl _) _).mono HB2.out.size |>.trans (hbw.mono (by have := HB2.out.size; simp; omega)))); have hc53 := (HB3.out.cell (p := ⟨bs, 5, none⟩) hbs).trans hc5; have hx3 := block_keep ((heap_alloc_old w2 _ (block_lt HX2.out)).trans HX2.out) hbw; have cx3 := fun i => cell_of_row w3 _ i _ _ _ hx3; have HX3 := Lib.hid hx3; clear hx3 hbw cx2 hc52))
            have hbs3 : bs < w3.heap.size := by have := HB3.out.size; omega
            have hbb3 : bb < w3.heap.size := by have := HB3.out.size; omega
            have h03 := (HB3.out.cell (p := ⟨bb, ob + 2, none⟩) hbb).trans h0
            refine wp_region_inv1 (by kernel_rfl) (by kernel_rfl) [29] (fun D y w' => Below w3.heap.size w3 w' ∧ (D 3 = true → IntsIn .i64 w'.heap.size w' (y 29) [(n : Int)])) ⟨(Below.refl _ _).drew, fun h => absurd h (by simp)⟩ ?F2 ?hF2 ?_
            case hF2 =>
              intro y
              simp only [fill, List.foldl, Act.put, List.setIfInBounds_toArray, List.set]
              exact rfl
            iterate 3
              (apply obl_det
               case hrun =>
                 intro D y wz hW hD R hR
                 have HR := Lib.hid hR
                 clear hR
                 obtain ⟨hb, hI⟩ := hW
                 have HWz := Lib.hid (And.intro hb hI)
                 have hc5z := (hb.cell (p := ⟨bs, 5, none⟩) hbs3).trans hc53
                 have h0z := (hb.cell (p := ⟨bb, ob + 2, none⟩) hbb3).trans h03
                 have cxz := fun i => cell_of_row wz _ i _ _ _ (block_keep HX3.out hb)
                 clear hb hI hD
                 go_wp2
                 exact HR.out _ HWz.out
               case hnp => rfl
               case hv => first | exact ⟨_, fun _ => rfl⟩ | exact ⟨undef, fun _ => rfl⟩)
            apply obl_priv 29
            case hd => rfl
            case hp => rfl
            case hrun =>
              intro D y wz hW hD R hR
              have HR := Lib.hid hR
              clear hR hD
              obtain ⟨hb, hI⟩ := hW
              go_wp2
              exact HR.out _ _ ⟨hb.alloc hb.size _, fun _ => (intsIn_new wz _ rfl [(n : Int)] (by simp) 1 rfl).mono (by simp)⟩
            apply obl_det
            case hrun =>
              intro D y wz hW hD R hR
              have HR := Lib.hid hR
              clear hR
              obtain ⟨hb, hI⟩ := hW
              have hI3 := hI (hD.pre _ 3 rfl (by kernel_rfl))
              have HI3 := Lib.hid hI3
              have HB := Lib.hid hb
              have HI := Lib.hid hI
              clear hb hI hD hI3
              go_wp2_with (go_at_call 35; refine (out_r _ 1 8 _ HR2.out _ _ _ HI3.out (Nat.le_refl _)).mono ?_; rintro e w' ⟨rfl, hbw⟩)
              exact HR.out _ ⟨HB.out.trans (hbw.mono HB.out.size), fun h => (((HI.out h).below hbw).mono hbw.size)⟩
            case hnp => rfl
            case hv => first | exact ⟨_, fun _ => rfl⟩ | exact ⟨undef, fun _ => rfl⟩
            iterate 10
              (apply obl_det
               case hrun =>
                 intro D y wz hW hD R hR
                 have HR := Lib.hid hR
                 clear hR
                 obtain ⟨hb, hI⟩ := hW
                 have HWz := Lib.hid (And.intro hb hI)
                 have hc5z := (hb.cell (p := ⟨bs, 5, none⟩) hbs3).trans hc53
                 have h0z := (hb.cell (p := ⟨bb, ob + 2, none⟩) hbb3).trans h03
                 have cxz := fun i => cell_of_row wz _ i _ _ _ (block_keep HX3.out hb)
                 clear hb hI hD
                 go_wp2
                 exact HR.out _ HWz.out
               case hnp => rfl
               case hv => first | exact ⟨_, fun _ => rfl⟩ | exact ⟨undef, fun _ => rfl⟩)
            apply obl_det
            case hrun =>
              intro D y wz hW hD R hR
              have HR := Lib.hid hR
              clear hR
              obtain ⟨hb, hI⟩ := hW
              have HWz := Lib.hid (And.intro hb hI)
              have hc5z := (hb.cell (p := ⟨bs, 5, none⟩) hbs3).trans hc53
              have h0z := (hb.cell (p := ⟨bb, ob + 2, none⟩) hbb3).trans h03
              have cxz := fun i => cell_of_row wz _ i _ _ _ (block_keep HX3.out hb)
              clear hb hI hD
              have hne := HNE.out
              go_wp2
              exact HR.out _ HWz.out
            case hnp => rfl
            case hv => first | exact ⟨_, fun _ => rfl⟩ | exact ⟨undef, fun _ => rfl⟩
            iterate 2
              (apply obl_det
               case hrun =>
                 intro D y wz hW hD R hR
                 have HR := Lib.hid hR
                 clear hR
                 obtain ⟨hb, hI⟩ := hW
                 have HWz := Lib.hid (And.intro hb hI)
                 have hc5z := (hb.cell (p := ⟨bs, 5, none⟩) hbs3).trans hc53
                 have h0z := (hb.cell (p := ⟨bb, ob + 2, none⟩) hbb3).trans h03
                 have cxz := fun i => cell_of_row wz _ i _ _ _ (block_keep HX3.out hb)
                 clear hb hI hD
                 go_wp2
                 exact HR.out _ HWz.out
               case hnp => rfl
               case hv => first | exact ⟨_, fun _ => rfl⟩ | exact ⟨undef, fun _ => rfl⟩)
            apply obl_nil
            intro D y w4 hall hW
            obtain ⟨hb4, hI4⟩ := hW
            have HB4 := Lib.hid (HB3.out.trans (hb4.mono HB3.out.size))
            have hx4 := block_keep HX3.out hb4
            have cx4 := fun i => cell_of_row w4 _ i _ _ _ hx4
            clear hI4 hall hb4 hx4 cx3 hc53 h03 hc5 h0
            simp only [Exit.then]
            go_wp2_with (go_at_call 57; refine (findSpan_any x.warm _ _ ((HW.out.below HB4.out).mono HB4.out.size)).mono ?_; rintro e w5 ⟨⟨k, rfl⟩, hbw⟩)
            go_ret
            exact ⟨ret_int HE.out.symm, HB4.out.trans (hbw.mono HB4.out.size)⟩

theorem check1_any (x : Sto) (vw vs : Value) (l : List Sto) (i bs : Nat) (w : World) (hv : StosIn w.heap.size w vs l) (hi : i < l.length) (hx : l.getD i default = x) (hw : SpansIn w.heap.size w vw x.warm)
    (hz : x.name.size ≤ 1000000000000000) (hbs : bs < w.heap.size) (hc5 : w.cell? ⟨bs, 5, none⟩ = some vs) :
    Calls Try.prog 53 #[.int .i64 i, .agg #[.string x.name, .int .i64 x.rent, vw], .pointer (some ⟨bs, 0, none⟩)] w fun e w' => e = .returned (.int .i64 (stoE l i)) ∧ Below w.heap.size w w' := by
  obtain ⟨b0, o0, c, rfl, hlc, hbb, _, _, _, vw0, h0, hw0⟩ := hv.at (i := 0) (by omega)
  obtain ⟨a0, c0, rfl, _, _, _⟩ := hw0
  have hw' := hw
  obtain ⟨av, cv, rfl, hnl, _, _⟩ := hw
  exact check1_aux x av a0 _ _ cv c0 b0 o0 c l i bs w hv hi hlc hv.len hx hw' hbb (by simpa using h0) rfl rfl hz hnl hbs hc5
end Go.Proofs.Ytddapabmfecidaa
