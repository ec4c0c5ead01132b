/- blend.Stays: what a recipe costs besides a wax. -/
import Derived.Deep.Cut
import Derived.Deep.CutBlock
import Derived.Test.YtohglbfeahofhaaGreatD22
namespace Go.Proofs.YtohglbfeahofhaaGreat
open Go.RowKit
def restX (x : List Int) : Int := priceX x - x.getD 0 0 * 1200
structure RsW (w : World) (ps : List (BWax × Int)) (d2 d3 : Bool) (w' : World) : Prop where
  bel : Below w.heap.size w w'
  size : d2 = false → w'.heap.size = w.heap.size
  parts : d2 = true → d3 = false → PartsIn w'.heap.size w' (.slice (some ⟨w.heap.size, 0, none⟩) 3 3) ps
set_option maxRecDepth 100000 in
set_option maxHeartbeats 16000000 in
theorem rest_ok {x : List Int} (hx : R3 x) (a : Option Addr) (cap : Nat) (v : Value) (lb xb : Nat) (w : World) (hl : w.heap[lb]? = some (.cells #[.slice a 3 cap] 22)) (hxb : w.heap[xb]? = some (.cells #[.int .i64 0] 3)) (hv : BWaxesIn w.heap.size w (.slice a 3 cap) exL) (hrv : IntsIn .i64 w.heap.size w v x) :
    Calls Tryz.prog 57 #[v, .pointer (some ⟨lb, 0, none⟩), .pointer (some ⟨xb, 0, none⟩)] w fun e w' => e = .returned (.int .i64 (restX x)) ∧ Below w.heap.size w w' := by
  obtain ⟨ra, rc, rfl, -⟩ := id hrv
  have HV := Lib.hid hv
  have HRV := Lib.hid hrv
  have HL := Lib.hid hl
  have HXB := Lib.hid hxb
  rw [hx.len] at HRV ⊢
  have HBL := fun v rv w B hB h1 h2 => Lib.hid (blend_at exL x (by decide) (by decide) hx.len v rv w B hB h1 h2)
  have HWH := fun v w h => Lib.hid (whole_price (exL.zip x) (ex_psok hx) (by rw [ex_pslen hx]; decide) v w h)
  have hps := sum5 (gPrice_in (ex_psok hx)) (by rw [ex_pslen hx]; decide)
  have hx0 := hx.part 0 (by decide)
  have HRX : Hid (restX x = sumG gPrice (exL.zip x) (exL.zip x).length - x.getD 0 0 * 1200) := rfl
  rw [show exL.length = 3 from rfl] at HBL
  obtain ⟨b, o, rfl, hbl, -, -, hpr, -⟩ := HV.out.at' (i := 0) (by decide)
  have HPR : Hid (w.cell? ⟨b, o + 1, none⟩ = some (.int .i64 1200)) := by
    rw [Nat.zero_mul, Nat.add_zero] at hpr; exact hpr
  have HPB := Lib.hid hbl
  obtain ⟨rb, ro, rfl, hrbl, hrx⟩ := HRV.out.atU (i := 0) (by rw [hx.len]; decide)
  rw [Nat.add_zero] at hrx
  have HRB := Lib.hid hrbl
  have HRC := Lib.hid hrx
  generalize exL.zip x = ps at *
  generalize sumG gPrice ps ps.length = S at *
  generalize x.getD 0 0 = n at *
  have HM1 : Hid (wrap64 (n * 1200) = n * 1200) := wrapU (by omega)
  have HM2 : Hid (wrap64 (S - n * 1200) = S - n * 1200) := wrapU (by omega)
  generalize restX x = R at *
  clear hv hrv hl hxb hx hpr hbl hrbl hrx hps hx0
  go_enter Tryz.func57, Tryz.ntmps57
  go_upto_region 1 with fail
  refine wp_region_inv0 (by kernel_rfl) (by kernel_rfl) (fun D w' => RsW w ps (D 2) (D 3) w') ⟨(Below.refl _ _).drew, fun _ => rfl, fun h => (by cases h)⟩ ?_
  iterate 2
    (apply obl_det
     case hrun =>
       intro D y wz hW hD R hR
       have HRR := Lib.hid hR
       clear hR
       have HW := Lib.hid hW
       have c_l := cell_of_row _ _ 0 _ _ _ (block_keep HL.out HW.out.bel)
       have c_x := cell_of_row _ _ 0 _ _ _ (block_keep HXB.out HW.out.bel)
       have c_p := (HW.out.bel.cell (p := ⟨b, o + 1, none⟩) HPB.out).trans HPR.out
       have c_r := (HW.out.bel.cell (p := ⟨rb, ro, none⟩) HRB.out).trans HRC.out
       have m1 := HM1.out
       have m2 := HM2.out
       clear hW hD
       go_wp2
       exact HRR.out _ HW.out
     case hnp => rfl
     case hv => first | exact ⟨_, fun _ => rfl⟩ | exact ⟨undef, fun _ => rfl⟩)
  apply obl_det
  case hrun =>
    intro D y wz hW hD R hR
    have HRR := Lib.hid hR
    clear hR
    have h2 : D 2 = false := hD.not
    have h3 : D 3 = false := hD.post _ 3 rfl (by kernel_rfl)
    rw [h2, h3] at hW
    have H3 := Lib.hid h3
    clear h2 h3
    have HW := Lib.hid hW
    clear hW hD
    go_wp2_with fail
    refine (HBL _ _ _ _ (HW.out.size rfl) ((HV.out.below HW.out.bel).mono HW.out.bel.size) ((HRV.out.below HW.out.bel).mono HW.out.bel.size)).out.mono ?_
    rintro e w' ⟨rfl, hpp, hb⟩
    have HPP := Lib.hid hpp
    have HB := Lib.hid (HW.out.bel.trans (hb.mono HW.out.bel.size))
    clear hpp hb
    go_wp2_with fail
    refine HRR.out _ ?_
    show RsW w ps true (D 3) w'
    rw [H3.out]
    exact ⟨HB.out, fun h => (by cases h), fun _ _ => HPP.out⟩
  case hnp => rfl
  case hv => first | exact ⟨_, fun _ => rfl⟩ | exact ⟨undef, fun _ => rfl⟩
  apply obl_det
  case hrun =>
    intro D y wz hW hD R hR
    have HRR := Lib.hid hR
    clear hR
    have h2 : D 2 = true := hD.pre _ 2 rfl (by kernel_rfl)
    have h3 : D 3 = false := hD.not
    rw [h2, h3] at hW
    have H2 := Lib.hid h2
    clear h2 h3
    have HW := Lib.hid hW
    clear hW hD
    go_wp2_with fail
    refine (HWH _ _ (HW.out.parts rfl rfl)).out.mono ?_
    rintro e w' ⟨rfl, hb⟩
    have HB := Lib.hid (HW.out.bel.trans (hb.mono HW.out.bel.size))
    clear hb
    go_wp2_with fail
    refine HRR.out _ ?_
    show RsW w ps (D 2) true w'
    rw [H2.out]
    exact ⟨HB.out, fun h => (by cases h), fun _ h => (by cases h)⟩
  case hnp => rfl
  case hv => first | exact ⟨_, fun _ => rfl⟩ | exact ⟨undef, fun _ => rfl⟩
  iterate 12
    (apply obl_det
     case hrun =>
       intro D y wz hW hD R hR
       have HRR := Lib.hid hR
       clear hR
       have HW := Lib.hid hW
       have c_l := cell_of_row _ _ 0 _ _ _ (block_keep HL.out HW.out.bel)
       have c_x := cell_of_row _ _ 0 _ _ _ (block_keep HXB.out HW.out.bel)
       have c_p := (HW.out.bel.cell (p := ⟨b, o + 1, none⟩) HPB.out).trans HPR.out
       have c_r := (HW.out.bel.cell (p := ⟨rb, ro, none⟩) HRB.out).trans HRC.out
       have m1 := HM1.out
       have m2 := HM2.out
       clear hW hD
       go_wp2
       exact HRR.out _ HW.out
     case hnp => rfl
     case hv => first | exact ⟨_, fun _ => rfl⟩ | exact ⟨undef, fun _ => rfl⟩)
  apply obl_nil
  intro D y w8 hall hW
  have HB8 := Lib.hid hW.bel
  clear hW hall
  go_wp2_with fail
  go_ret
  exact ⟨ret_int HRX.out.symm, HB8.out⟩
end Go.Proofs.YtohglbfeahofhaaGreat
