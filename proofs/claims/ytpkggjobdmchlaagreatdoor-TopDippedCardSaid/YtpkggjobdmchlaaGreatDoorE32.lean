/- dip.Read at the example. -/
import Derived.Deep.Cut
import Derived.Deep.CutBlock
import Derived.Test.YtpkggjobdmchlaaGreatDoorE30
namespace Go.Proofs.YtpkggjobdmchlaaGreatDoor
open Go.RowKit
theorem infoSTS : (Tryz.prog.info? 134).map (·.size) = some 1 := by kernel_rfl
theorem four_dip (a b c : Int) (d : Bool) : ∀ u ∈ [Value.int .i64 a, Value.int .i64 b, Value.int .i64 c, Value.bool d], u.oneCell' = true := fun u hu => by
  simp at hu
  rcases hu with rfl | rfl | rfl | rfl <;> rfl
def exRest : Nat → ByteArray
  | 0 => ⟨#[108, 111, 119, 32, 51, 32, 52, 48, 10, 108, 111, 119, 32, 51, 32, 51, 48, 32, 116, 117, 114, 110, 101, 100, 10]⟩
  | 1 => ⟨#[108, 111, 119, 32, 51, 32, 51, 48, 32, 116, 117, 114, 110, 101, 100, 10]⟩
  | _ => ⟨#[]⟩
def exRow : Nat → List Value
  | 0 => []
  | 1 => [.int .i64 0, .int .i64 3, .int .i64 40, .bool false]
  | _ => [.int .i64 0, .int .i64 3, .int .i64 40, .bool false, .int .i64 0, .int .i64 3, .int .i64 30, .bool true]
def szOf : Value → Nat
  | .string s => s.size
  | _ => 0
theorem exDip0 : dipE exS ⟨0, 3, 40, false⟩ = 0 := by kernel_rfl
theorem exDip1 : dipE exS ⟨0, 3, 30, true⟩ = 0 := by kernel_rfl
theorem lt_of_cell0 {w : World} {a : Addr} {v : Value} (h : w.cell? a = some v) : a.block < w.heap.size := by
  by_cases hn : a.block < w.heap.size
  · exact hn
  · have h0 : w.heap[a.block]? = none := Array.getElem?_eq_none (by omega)
    simp [World.cell?, h0] at h
def dipV (d : DDip) : List Value := [.int .i64 d.bath, .int .i64 d.seconds, .int .i64 d.pause, .bool d.turned]
theorem dips_of {w : World} {base : Nat} {v : Value} {l : List DDip} {xs : List Value} (h : w.ownsRow base 54 4 v l.length xs) (hl : l.length ≤ 1000) (hx : ∀ i j, i < l.length → j < 4 → xs[i * 4 + j]? = (dipV (l.getD i default))[j]?) : DipsIn w.heap.size w v l := by
  obtain ⟨_, h⟩ := h
  rcases h with ⟨rfl, h0⟩ | ⟨g, cap, cur, rfl, hb, hg, hn, hm, hc, ht⟩
  · have : l = [] := List.eq_nil_of_length_eq_zero h0
    subst this
    exact ⟨_, _, rfl, by simp, by simp, .inl rfl⟩
  · refine ⟨_, _, rfl, by omega, hn, .inr ⟨g, 0, rfl, block_lt hg, fun i hi => ?_⟩⟩
    have key : ∀ j, j < 4 → w.cell? ⟨g, 0 + i * 4 + j, none⟩ = (dipV (l.getD i default))[j]? := by
      intro j hj
      rw [Nat.zero_add, cell_of_row w g _ _ _ _ hg, ← hx i j hi hj, ← ht, List.getElem?_take, if_pos (by omega), Array.getElem?_toList]
    exact ⟨key 0 (by omega), key 1 (by omega), key 2 (by omega), key 3 (by omega)⟩
set_option maxRecDepth 100000 in
set_option maxHeartbeats 16000000 in
theorem read38 (v : Value) (m : Int) (w : World) (hv : DBathsIn w.heap.size w v exS.baths) (hm : w.cell? ⟨0, 0, none⟩ = some (.int .i64 m)) :
    Calls Tryz.prog 38 #[.agg (dshopC exS v), .string exText] w fun e w' => ∃ u, e = .returned (.tuple #[u, .int .i64 0]) ∧ DipsIn w'.heap.size w' u exP ∧ Below w.heap.size w w' := by
  have hmf : ∀ (fn : Fn) (first cap : Array Value) (w : World), (Instr.makeFunc fn first cap).run Tryz.prog w = .ok (.func fn first cap) w := fun _ _ _ _ => rfl
  obtain ⟨va, vc, rfl, -, -⟩ := sl_shape hv
  have HV := Lib.hid hv
  have hlen : exS.baths.length = 2 := rfl
  rw [hlen] at HV ⊢
  have HM := Lib.hid hm
  have HM0 : Hid (0 < w.heap.size) := lt_of_cell0 hm
  have HCK := fun v w h => Lib.hid (dcheck_ok exS_ok v w h)
  have HCUT0 := fun w h => Lib.hid (cutX0 m w h)
  have HCUT1 := fun w h => Lib.hid (cutX1 m w h)
  have HSPL0 := fun w h => Lib.hid (splitX0 m w h)
  have HSPL1 := fun w h => Lib.hid (splitX1 m w h)
  have HMU := fun w => Lib.hid (must74 w)
  have HN3 := fun w => Lib.hid (number3 w)
  have HN40 := fun w => Lib.hid (number40 w)
  have HN30 := fun w => Lib.hid (number30 w)
  have HDP0 : ∀ w, Hid (Calls Tryz.prog 78 #[.agg (dshopC exS (.slice va 2 vc)), .int .i64 0, .agg #[.int .i64 0, .int .i64 3, .int .i64 40, .bool false]] w fun e w' => e = .returned (.int .i64 0) ∧ Below w.heap.size w w') := fun w => by
    have h := dip_ok exS (by decide) ⟨0, 3, 40, false⟩ 0 (.slice va 2 vc) w ⟨_, _, rfl⟩
    rw [exDip0] at h
    exact Lib.hid h
  have HDP1 : ∀ w, Hid (Calls Tryz.prog 78 #[.agg (dshopC exS (.slice va 2 vc)), .int .i64 0, .agg #[.int .i64 0, .int .i64 3, .int .i64 30, .bool true]] w fun e w' => e = .returned (.int .i64 0) ∧ Below w.heap.size w w') := fun w => by
    have h := dip_ok exS (by decide) ⟨0, 3, 30, true⟩ 0 (.slice va 2 vc) w ⟨_, _, rfl⟩
    rw [exDip1] at h
    exact Lib.hid h
  obtain ⟨i0, hi0, hz0, hz1, hz2⟩ := infoDDx
  have HA0 := Lib.hid hi0
  have HA1 := Lib.hid hz0
  have HA2 := Lib.hid hz1
  have HA3 := Lib.hid hz2
  clear hv hm hlen hi0 hz0 hz1 hz2
  have C0 : Hid (Bs w [(w.heap.size, .cells (dshopC exS (.slice va 2 vc)) 30), (w.heap.size + 1, .cells #[.slice none 0 0] 35), (w.heap.size + 2, .cells #[.int .i64 0] 41)] _) := Lib.hid ((((Bs.nil w).push _ rfl (.cells (dshopC exS (.slice va 2 vc)) 30)).push (w.heap.size + 1) (by simp) (.cells #[.slice none 0 0] 35)).push (w.heap.size + 2) (by simp) (.cells #[.int .i64 0] 41))
  go_enter_defers Tryz.func38, Tryz.ntmps38
  go_upto_region 1 with fail
  obtain ⟨w0, HW0⟩ : ∃ z, Hid ((((w.alloc (.cells (dshopC exS (.slice va 2 vc)) 30)).alloc (.cells #[.slice none 0 0] 35)).alloc (.cells #[.int .i64 0] 41)) = z) := ⟨_, rfl⟩
  rw [HW0.out] at C0 ⊢
  clear HW0
  go_wp2_with (refine wpList_load_row rfl 30 _ rfl _ rfl _ _ _ _ (C0.out.get 0 rfl) Tryz.underlying30 rfl infoDS ?_)
  refine (HCK _ _ ((HV.out.below C0.out.bel).mono C0.out.bel.size)).out.mono ?_
  rintro e w1 ⟨rfl, hb⟩
  have C1 := Lib.hid (C0.out.call hb)
  clear hb C0 HCK
  go_upto_region 2 with (refine wpList_cell_bs rfl 41 _ _ rfl C1.out 2 _ 0 _ _ rfl rfl (.int .i64 0) rfl (by simp) rfl infoErr4 ?_; intro w2 hC; have C2 : Hid (Bs w [(w.heap.size, .cells (dshopC exS (.slice va 2 vc)) 30), (w.heap.size + 1, .cells #[.slice none 0 0] 35), (w.heap.size + 2, .cells #[.int .i64 0] 41)] w2) := hC; clear hC C1)
  have c_e := C2.out.cell 2 rfl 0
  go_upto_region 7 with fail
  clear c_e
  have DP : Hid (Bs w2 [(w2.heap.size, .cells #[.int .i64 0, .int .i64 0, .int .i64 0, .int .i64 0, .int .i64 0, .int .i64 0, .int .i64 0, .int .i64 0, .slice none 0 0] 106)] _) := Lib.hid ((Bs.nil w2).push w2.heap.size rfl (.cells #[.int .i64 0, .int .i64 0, .int .i64 0, .int .i64 0, .int .i64 0, .int .i64 0, .int .i64 0, .int .i64 0, .slice none 0 0] 106))
  go_upto_region 8 with (first | (refine wpList_load_row rfl 30 _ rfl _ rfl _ _ _ _ (C2.out.get 0 rfl) Tryz.underlying30 rfl infoDS ?_) | (refine wpList_store_bs rfl 106 _ _ rfl DP.out 0 _ (dshopC exS (.slice va 2 vc)) _ _ rfl rfl rfl infoDsh rfl (by simp [Value.oneCell']) ?_; intro w3 hC; have D3 : Hid (Bs w2 [(w2.heap.size, .cells (dshopC exS (.slice va 2 vc)) 106)] w3) := hC; clear hC DP))
  have C3 : Hid (Bs w [(w.heap.size, .cells (dshopC exS (.slice va 2 vc)) 30), (w.heap.size + 1, .cells #[.slice none 0 0] 35), (w.heap.size + 2, .cells #[.int .i64 0] 41), (w2.heap.size, .cells (dshopC exS (.slice va 2 vc)) 106)] w3) := Lib.hid (C2.out.snocB D3.out.bel (D3.out.get 0 rfl))
  have HZ1 : Hid (w.heap.size + 1 < w3.heap.size) := C3.out.lt 1 rfl
  have HZ0 : Hid (w.heap.size + 2 < w3.heap.size) := C3.out.lt 2 rfl
  have HZ2 : Hid (w2.heap.size < w3.heap.size) := C3.out.lt 3 rfl
  have HZ : Hid (w.heap.size ≤ w3.heap.size) := C3.out.bel.size
  clear C2 D3
  go_wp2_with fail
  simp only [Act.put]
  go_loopw [1] (fun tx wr => ∃ (k : Nat) (pv : Value), k ≤ 2 ∧ tx = .string (exRest k) ∧ Bs w [(w.heap.size, .cells (dshopC exS (.slice va 2 vc)) 30), (w.heap.size + 1, .cells #[pv] 35), (w.heap.size + 2, .cells #[.int .i64 0] 41), (w2.heap.size, .cells (dshopC exS (.slice va 2 vc)) 106)] wr ∧ w3.heap.size ≤ wr.heap.size ∧ wr.ownsRow w3.heap.size 54 4 pv k (exRow k)) (fun tx _ => szOf tx)
  case atStart => exact ⟨0, _, by omega, rfl, C3.out, Nat.le_refl _, World.ownsRow_nil _ _ 54 4⟩
  case round =>
    obtain ⟨k, pv, hk, rfl, hbs, hl, hrow⟩ := hrel
    have C := Lib.hid hbs
    have HL := Lib.hid hl
    clear hbs hl C3
    rcases (by omega : k = 0 ∨ k = 1 ∨ k = 2) with rfl | rfl | rfl
    · have HR : Hid (wr.ownsRow w3.heap.size 54 4 pv 0 []) := hrow
      clear hrow
      rw [show exRest 0 = ⟨#[108, 111, 119, 32, 51, 32, 52, 48, 10, 108, 111, 119, 32, 51, 32, 51, 48, 32, 116, 117, 114, 110, 101, 100, 10]⟩ from rfl]
      obtain ⟨pa, pc, rfl⟩ := ownsRow_slice HR.out
      have HMr : Hid (wr.cell? ⟨0, 0, none⟩ = some (.int .i64 m)) := Lib.hid ((C.out.bel.cell (p := ⟨0, 0, none⟩) HM0.out).trans HM.out)
      go_wp2_with fail
      refine (HCUT0 _ HMr.out).out.mono ?_
      rintro e wc ⟨rfl, hb⟩
      have CC := Lib.hid (C.out.call hb)
      have HRc := Lib.hid (ownsRow.below HR.out hb)
      have HLc : Hid (w3.heap.size ≤ wc.heap.size) := Nat.le_trans HL.out hb.size
      clear hb C HR HL HMr
      have HMc : Hid (wc.cell? ⟨0, 0, none⟩ = some (.int .i64 m)) := Lib.hid ((CC.out.bel.cell (p := ⟨0, 0, none⟩) HM0.out).trans HM.out)
      go_wp2_with fail
      refine (HSPL0 _ HMc.out).out.mono ?_
      rintro e wd0 ⟨rfl, rfl⟩
      have DD : Hid (Bs wc [(wc.heap.size, .cells #[.string ⟨#[108, 111, 119]⟩, .string ⟨#[51]⟩, .string ⟨#[52, 48]⟩] 9), (wc.heap.size + 1, .cells #[.slice (some ⟨wc.heap.size, 0, none⟩) 3 3] 134)] _) := Lib.hid (((Bs.nil wc).push wc.heap.size rfl (.cells #[.string ⟨#[108, 111, 119]⟩, .string ⟨#[51]⟩, .string ⟨#[52, 48]⟩] 9)).push (wc.heap.size + 1) (by simp) (.cells #[.slice (some ⟨wc.heap.size, 0, none⟩) 3 3] 134))
      go_upto_region 11 with fail
      obtain ⟨w5, HW5⟩ : ∃ z, Hid (((wc.alloc (.cells #[.string ⟨#[108, 111, 119]⟩, .string ⟨#[51]⟩, .string ⟨#[52, 48]⟩] 9)).alloc (.cells #[.slice (some ⟨wc.heap.size, 0, none⟩) 3 3] 134)) = z) := ⟨_, rfl⟩
      rw [HW5.out] at DD ⊢
      clear HW5
      have c_w := DD.out.cell 1 rfl 0
      go_wp2_with fail
      refine (dout_row false 3 4 [3] 1 rfl (by simp) (by rw [outB_one]; decide) _ _ rfl _ (heap_alloc_new _ _)).mono ?_
      rintro e w6 ⟨rfl, hb⟩
      have D6 := Lib.hid ((DD.out.alloc _).call hb)
      clear hb DD c_w
      have c_w := D6.out.cell 1 rfl 0
      
      go_wp2_with fail
      refine (HMU _).out.mono ?_
      rintro e w7 ⟨rfl, rfl⟩
      clear c_w
      have C6 := Lib.hid (CC.out.call D6.out.bel)
      have hx8 := C6.out.cell 3 rfl 8
      go_wp2_with fail
      refine (idx75 _ (wc.heap.size + 1) wc.heap.size 3 3 (by omega) _ ((HV.out.below C6.out.bel).mono C6.out.bel.size) (D6.out.cell 1 rfl 0) (D6.out.lt 1 rfl) (D6.out.cell 0 rfl 0) (D6.out.lt 0 rfl)).mono ?_
      rintro e we ⟨rfl, hb⟩
      have DE := Lib.hid (D6.out.call hb)
      clear hb D6 hx8
      go_upto_region 13 with fail
      refine wp_region_inv1 (by kernel_rfl) (by kernel_rfl) [12] (fun D y w' => PlG 54 we #[.int .i64 0, .int .i64 0, .int .i64 0, .bool false] #[.int .i64 0, .int .i64 3, .int .i64 40, .bool false] (D 13) (D 14) (y 12) w') ⟨(Below.refl _ _).drew, fun h => (by cases h)⟩ ?FP0 ?hFP0 ?_
      case hFP0 =>
        intro y
        simp only [fill, List.foldl, Act.put, List.setIfInBounds_toArray, List.set]
        exact rfl
      apply obl_det
      case hrun =>
        intro D y wz hW hD R hR
        have HRR := Lib.hid hR
        clear hR
        have HW := Lib.hid hW
        clear hW hD
        go_wp2_with fail
        exact HRR.out _ ⟨HW.out.bel, HW.out.al⟩
      case hnp => rfl
      case hv => first | exact ⟨_, fun _ => rfl⟩ | exact ⟨undef, fun _ => rfl⟩
      apply obl_det
      case hrun =>
        intro D y wz hW hD R hR
        have HRR := Lib.hid hR
        clear hR
        have HW := Lib.hid hW
        have c_w := ((DE.out.call HW.out.bel).cell 1 rfl 0)
        clear hW hD
        go_wp2_with fail
        exact HRR.out _ ⟨HW.out.bel, HW.out.al⟩
      case hnp => rfl
      case hv => first | exact ⟨_, fun _ => rfl⟩ | exact ⟨undef, fun _ => rfl⟩
      apply obl_det
      case hrun =>
        intro D y wz hW hD R hR
        have HRR := Lib.hid hR
        clear hR
        have HW := Lib.hid hW
        clear hW hD
        go_wp2_with fail
        exact HRR.out _ ⟨HW.out.bel, HW.out.al⟩
      case hnp => rfl
      case hv => first | exact ⟨_, fun _ => rfl⟩ | exact ⟨undef, fun _ => rfl⟩
      apply obl_det
      case hrun =>
        intro D y wz hW hD R hR
        have HRR := Lib.hid hR
        clear hR
        have HW := Lib.hid hW
        have c_w := ((DE.out.call HW.out.bel).cell 0 rfl 1)
        clear hW hD
        go_wp2_with fail
        exact HRR.out _ ⟨HW.out.bel, HW.out.al⟩
      case hnp => rfl
      case hv => first | exact ⟨_, fun _ => rfl⟩ | exact ⟨undef, fun _ => rfl⟩
      apply obl_det
      case hrun =>
        intro D y wz hW hD R hR
        have HRR := Lib.hid hR
        clear hR
        have HW := Lib.hid hW
        clear hW hD
        go_wp2_with fail
        refine (HN3 _).out.mono ?_
        rintro e w' ⟨rfl, hb⟩
        have HW2 := Lib.hid (PlG.next HW.out hb)
        clear hb
        go_wp2_with fail
        exact HRR.out _ ⟨HW2.out.bel, HW2.out.al⟩
      case hnp => rfl
      case hv => first | exact ⟨_, fun _ => rfl⟩ | exact ⟨undef, fun _ => rfl⟩
      apply obl_det
      case hrun =>
        intro D y wz hW hD R hR
        have HRR := Lib.hid hR
        clear hR
        have HW := Lib.hid hW
        have c_w := ((DE.out.call HW.out.bel).cell 1 rfl 0)
        clear hW hD
        go_wp2_with fail
        exact HRR.out _ ⟨HW.out.bel, HW.out.al⟩
      case hnp => rfl
      case hv => first | exact ⟨_, fun _ => rfl⟩ | exact ⟨undef, fun _ => rfl⟩
      apply obl_det
      case hrun =>
        intro D y wz hW hD R hR
        have HRR := Lib.hid hR
        clear hR
        have HW := Lib.hid hW
        clear hW hD
        go_wp2_with fail
        exact HRR.out _ ⟨HW.out.bel, HW.out.al⟩
      case hnp => rfl
      case hv => first | exact ⟨_, fun _ => rfl⟩ | exact ⟨undef, fun _ => rfl⟩
      apply obl_det
      case hrun =>
        intro D y wz hW hD R hR
        have HRR := Lib.hid hR
        clear hR
        have HW := Lib.hid hW
        have c_w := ((DE.out.call HW.out.bel).cell 0 rfl 2)
        clear hW hD
        go_wp2_with fail
        exact HRR.out _ ⟨HW.out.bel, HW.out.al⟩
      case hnp => rfl
      case hv => first | exact ⟨_, fun _ => rfl⟩ | exact ⟨undef, fun _ => rfl⟩
      apply obl_det
      case hrun =>
        intro D y wz hW hD R hR
        have HRR := Lib.hid hR
        clear hR
        have HW := Lib.hid hW
        clear hW hD
        go_wp2_with fail
        refine (HN40 _).out.mono ?_
        rintro e w' ⟨rfl, hb⟩
        have HW2 := Lib.hid (PlG.next HW.out hb)
        clear hb
        go_wp2_with fail
        exact HRR.out _ ⟨HW2.out.bel, HW2.out.al⟩
      case hnp => rfl
      case hv => first | exact ⟨_, fun _ => rfl⟩ | exact ⟨undef, fun _ => rfl⟩
      apply obl_det
      case hrun =>
        intro D y wz hW hD R hR
        have HRR := Lib.hid hR
        clear hR
        have HW := Lib.hid hW
        have c_w := ((DE.out.call HW.out.bel).cell 1 rfl 0)
        clear hW hD
        go_wp2_with fail
        exact HRR.out _ ⟨HW.out.bel, HW.out.al⟩
      case hnp => rfl
      case hv => first | exact ⟨_, fun _ => rfl⟩ | exact ⟨undef, fun _ => rfl⟩
      apply obl_det
      case hrun =>
        intro D y wz hW hD R hR
        have HRR := Lib.hid hR
        clear hR
        have HW := Lib.hid hW
        clear hW hD
        go_wp2_with fail
        exact HRR.out _ ⟨HW.out.bel, HW.out.al⟩
      case hnp => rfl
      case hv => first | exact ⟨_, fun _ => rfl⟩ | exact ⟨undef, fun _ => rfl⟩
      apply obl_det
      case hrun =>
        intro D y wz hW hD R hR
        have HRR := Lib.hid hR
        clear hR
        have HW := Lib.hid hW
        clear hW hD
        go_wp2_with fail
        exact HRR.out _ ⟨HW.out.bel, HW.out.al⟩
      case hnp => rfl
      case hv => first | exact ⟨_, fun _ => rfl⟩ | exact ⟨undef, fun _ => rfl⟩
      apply obl_det
      case hrun =>
        intro D y wz hW hD R hR
        have HRR := Lib.hid hR
        clear hR
        have HW := Lib.hid hW
        clear hW hD
        go_wp2_with fail
        exact HRR.out _ ⟨HW.out.bel, HW.out.al⟩
      case hnp => rfl
      case hv => first | exact ⟨_, fun _ => rfl⟩ | exact ⟨undef, fun _ => rfl⟩
      apply obl_priv 12
      case hd => rfl
      case hp => rfl
      case hrun =>
        intro D y wz hW hD R hR
        have HRR := Lib.hid hR
        clear hR
        have h14 : D 14 = false := hD.post _ 14 rfl (by kernel_rfl)
        have HBS := Lib.hid hW.bel
        have H14 := Lib.hid h14
        clear hW hD h14
        go_wp2_with fail
        refine HRR.out (.pointer (some ⟨wz.heap.size, 0, none⟩)) _ ⟨HBS.out.alloc HBS.out.size _, fun _ => ⟨_, rfl, HBS.out.size, ?_⟩⟩
        show _ = some (Obj.cells (if D 14 = true then _ else _) 54)
        rw [H14.out]
        exact heap_alloc_new _ _
      apply obl_det
      case hrun =>
        intro D y wz hW hD R hR
        have HRR := Lib.hid hR
        clear hR
        have h14 : D 14 = false := hD.not
        obtain ⟨gp, e, hgt, hcell⟩ := hW.al (hD.pre _ 13 rfl (by kernel_rfl))
        rw [h14] at hcell
        have CC := Lib.hid (Bs.snoc (l := []) (w := we) ⟨by simp, by simp, by simp, hW.bel⟩ (by simp) hcell hgt)
        have E := Lib.hid e
        have HGT := Lib.hid hgt
        clear hW hD h14 hcell e hgt
        refine wpList_store_bs rfl 54 _ _ rfl CC.out 0 gp #[.int .i64 0, .int .i64 3, .int .i64 40, .bool false] _ _ rfl E.out rfl infoDD rfl (by simp [Value.oneCell']) ?_
        intro w4 hC4
        simp only [Act.put]
        go_simp
        exact HRR.out _ ⟨hC4.bel, fun _ => ⟨gp, E.out, HGT.out, hC4.get 0 rfl⟩⟩
      case hnp => rfl
      case hv => first | exact ⟨_, fun _ => rfl⟩ | exact ⟨undef, fun _ => rfl⟩
      apply obl_nil
      intro D y w8 hall hW
      obtain ⟨gp, e, hgt, hcell⟩ := hW.al (hall 13 (by decide))
      rw [hall 14 (by decide)] at hcell
      have HGT := Lib.hid hgt
      have hcell2 : w8.heap[gp]? = some (.cells #[.int .i64 0, .int .i64 3, .int .i64 40, .bool false] 54) := by simpa using hcell
      have HCE := Lib.hid hcell2
      have HBW := Lib.hid hW.bel
      clear hW hall hcell hgt hcell2
      rw [e]
      clear e
      have C8 := Lib.hid (CC.out.call (DE.out.call HBW.out).bel)
      have HR8 := Lib.hid (ownsRow.below HRc.out (DE.out.call HBW.out).bel)
      have HL8 : Hid (w3.heap.size ≤ w8.heap.size) := Nat.le_trans HLc.out (DE.out.call HBW.out).bel.size
      have HGL : Hid (gp < w8.heap.size) := block_lt HCE.out
      clear CC HRc HLc C6 DE
      go_wp2_with (first | (refine wpList_load_row rfl 106 _ rfl _ rfl _ _ _ _ (C8.out.get 3 rfl) Tryz.underlying106 rfl infoDsh ?_) | (refine wpList_load_row rfl 54 _ rfl _ rfl _ _ _ _ HCE.out Tryz.underlying54 rfl infoDD ?_))
      refine (HDP0 _).out.mono ?_
      rintro e w9 ⟨rfl, hb⟩
      have C9 := Lib.hid (C8.out.call hb)
      have HR9 := Lib.hid (ownsRow.below HR8.out hb)
      have HL9 : Hid (w3.heap.size ≤ w9.heap.size) := Nat.le_trans HL8.out hb.size
      have HC9 := Lib.hid (block_keep HCE.out hb)
      clear hb C8 HR8 HL8
      have c_p := C9.out.cell 1 rfl 0
      go_wp2_with fail
      refine (HMU _).out.mono ?_
      rintro e w10 ⟨rfl, rfl⟩
      go_upto_region 15 with fail
      go_wp2_with (first | (refine wpList_load_row rfl 54 _ rfl _ rfl _ _ _ _ HC9.out Tryz.underlying54 rfl infoDD ?_) | (refine wpList_append_own _ rfl _ _ 35 rfl w3.heap.size 54 i0 (.agg #[.int .i64 0, .int .i64 0, .int .i64 0, .bool false]) 4 32 Tryz.underlying35 HA0.out HA1.out HA2.out HA3.out rfl (by decide) (.slice pa 0 pc) 0 [] rfl (HR9.out.alloc _) ⟨w10.heap.size, 0, none⟩ 1 1 [.int .i64 0, .int .i64 3, .int .i64 40, .bool false] rfl rfl (cell_news _ _ _ _ (heap_alloc_new _ _)) (four_dip _ _ _ _) (by unfold maxLen; omega) (by omega) (by have := HL9.out; simp; omega) ?_; intro v' w11 hown hgrow _; obtain ⟨pb, pd, rfl⟩ := ownsRow_slice hown; have HO := Lib.hid hown; have C11 : Hid (Bs w [(w.heap.size, .cells (dshopC exS (.slice va 2 vc)) 30), (w.heap.size + 1, .cells #[.slice pa 0 pc] 35), (w.heap.size + 2, .cells #[.int .i64 0] 41), (w2.heap.size, .cells (dshopC exS (.slice va 2 vc)) 106)] w11) := Lib.hid ((C9.out.alloc _).grownB (HR9.out.alloc _) hgrow HZ.out (by have := HZ1.out; have := HZ2.out; have := HZ0.out; intro p hp; simp at hp; rcases hp with rfl | rfl | rfl | rfl <;> simp only <;> omega)); have HL11 : Hid (w3.heap.size ≤ w11.heap.size) := (by have h1 := hgrow.size; have h2 := HL9.out; unfold Hid; simp at h1; omega); clear hown hgrow C9 c_p) | (refine wpList_cell_but rfl 35 _ _ rfl (w.heap.size + 1) 0 _ _ (C11.out.get 1 rfl) rfl (.slice pb 1 pd) rfl (by simp) rfl infoDDs ?_; intro w12 hg hb; have C12 : Hid (Bs w [(w.heap.size, .cells (dshopC exS (.slice va 2 vc)) 30), (w.heap.size + 1, .cells #[.slice pb 1 pd] 35), (w.heap.size + 2, .cells #[.int .i64 0] 41), (w2.heap.size, .cells (dshopC exS (.slice va 2 vc)) 106)] w12) := C11.out.but 1 rfl hb hg; have HO12 := Lib.hid (ownsRow.low HO.out hb HZ1.out); have HL12 : Hid (w3.heap.size ≤ w12.heap.size) := Nat.le_trans HL11.out hb.size; clear hg hb C11))
      refine ⟨⟨1, _, by omega, rfl, C12.out, HL12.out, HO12.out⟩, ?_⟩
      decide

    · have HR : Hid (wr.ownsRow w3.heap.size 54 4 pv 1 [.int .i64 0, .int .i64 3, .int .i64 40, .bool false]) := hrow
      clear hrow
      rw [show exRest 1 = ⟨#[108, 111, 119, 32, 51, 32, 51, 48, 32, 116, 117, 114, 110, 101, 100, 10]⟩ from rfl]
      obtain ⟨pa, pc, rfl⟩ := ownsRow_slice HR.out
      have HMr : Hid (wr.cell? ⟨0, 0, none⟩ = some (.int .i64 m)) := Lib.hid ((C.out.bel.cell (p := ⟨0, 0, none⟩) HM0.out).trans HM.out)
      go_wp2_with fail
      refine (HCUT1 _ HMr.out).out.mono ?_
      rintro e wc ⟨rfl, hb⟩
      have CC := Lib.hid (C.out.call hb)
      have HRc := Lib.hid (ownsRow.below HR.out hb)
      have HLc : Hid (w3.heap.size ≤ wc.heap.size) := Nat.le_trans HL.out hb.size
      clear hb C HR HL HMr
      have HMc : Hid (wc.cell? ⟨0, 0, none⟩ = some (.int .i64 m)) := Lib.hid ((CC.out.bel.cell (p := ⟨0, 0, none⟩) HM0.out).trans HM.out)
      go_wp2_with fail
      refine (HSPL1 _ HMc.out).out.mono ?_
      rintro e wd0 ⟨rfl, rfl⟩
      have DD : Hid (Bs wc [(wc.heap.size, .cells #[.string ⟨#[108, 111, 119]⟩, .string ⟨#[51]⟩, .string ⟨#[51, 48]⟩, .string ⟨#[116, 117, 114, 110, 101, 100]⟩] 9), (wc.heap.size + 1, .cells #[.slice (some ⟨wc.heap.size, 0, none⟩) 4 4] 134)] _) := Lib.hid (((Bs.nil wc).push wc.heap.size rfl (.cells #[.string ⟨#[108, 111, 119]⟩, .string ⟨#[51]⟩, .string ⟨#[51, 48]⟩, .string ⟨#[116, 117, 114, 110, 101, 100]⟩] 9)).push (wc.heap.size + 1) (by simp) (.cells #[.slice (some ⟨wc.heap.size, 0, none⟩) 4 4] 134))
      go_upto_region 11 with fail
      obtain ⟨w5, HW5⟩ : ∃ z, Hid (((wc.alloc (.cells #[.string ⟨#[108, 111, 119]⟩, .string ⟨#[51]⟩, .string ⟨#[51, 48]⟩, .string ⟨#[116, 117, 114, 110, 101, 100]⟩] 9)).alloc (.cells #[.slice (some ⟨wc.heap.size, 0, none⟩) 4 4] 134)) = z) := ⟨_, rfl⟩
      rw [HW5.out] at DD ⊢
      clear HW5
      have c_w := DD.out.cell 1 rfl 0
      go_wp2_with fail
      refine (dout_row false 3 4 [4] 1 rfl (by simp) (by rw [outB_one]; decide) _ _ rfl _ (heap_alloc_new _ _)).mono ?_
      rintro e w6 ⟨rfl, hb⟩
      have D6 := Lib.hid ((DD.out.alloc _).call hb)
      clear hb DD c_w
      have c_w := D6.out.cell 1 rfl 0
      have c_t := D6.out.cell 0 rfl 3
      go_wp2_with fail
      refine (HMU _).out.mono ?_
      rintro e w7 ⟨rfl, rfl⟩
      clear c_w c_t
      have C6 := Lib.hid (CC.out.call D6.out.bel)
      have hx8 := C6.out.cell 3 rfl 8
      go_wp2_with fail
      refine (idx75 _ (wc.heap.size + 1) wc.heap.size 4 4 (by omega) _ ((HV.out.below C6.out.bel).mono C6.out.bel.size) (D6.out.cell 1 rfl 0) (D6.out.lt 1 rfl) (D6.out.cell 0 rfl 0) (D6.out.lt 0 rfl)).mono ?_
      rintro e we ⟨rfl, hb⟩
      have DE := Lib.hid (D6.out.call hb)
      clear hb D6 hx8
      go_upto_region 13 with fail
      refine wp_region_inv1 (by kernel_rfl) (by kernel_rfl) [12] (fun D y w' => PlG 54 we #[.int .i64 0, .int .i64 0, .int .i64 0, .bool false] #[.int .i64 0, .int .i64 3, .int .i64 30, .bool true] (D 13) (D 14) (y 12) w') ⟨(Below.refl _ _).drew, fun h => (by cases h)⟩ ?FP1 ?hFP1 ?_
      case hFP1 =>
        intro y
        simp only [fill, List.foldl, Act.put, List.setIfInBounds_toArray, List.set]
        exact rfl
      apply obl_det
      case hrun =>
        intro D y wz hW hD R hR
        have HRR := Lib.hid hR
        clear hR
        have HW := Lib.hid hW
        clear hW hD
        go_wp2_with fail
        exact HRR.out _ ⟨HW.out.bel, HW.out.al⟩
      case hnp => rfl
      case hv => first | exact ⟨_, fun _ => rfl⟩ | exact ⟨undef, fun _ => rfl⟩
      apply obl_det
      case hrun =>
        intro D y wz hW hD R hR
        have HRR := Lib.hid hR
        clear hR
        have HW := Lib.hid hW
        have c_w := ((DE.out.call HW.out.bel).cell 1 rfl 0)
        clear hW hD
        go_wp2_with fail
        exact HRR.out _ ⟨HW.out.bel, HW.out.al⟩
      case hnp => rfl
      case hv => first | exact ⟨_, fun _ => rfl⟩ | exact ⟨undef, fun _ => rfl⟩
      apply obl_det
      case hrun =>
        intro D y wz hW hD R hR
        have HRR := Lib.hid hR
        clear hR
        have HW := Lib.hid hW
        clear hW hD
        go_wp2_with fail
        exact HRR.out _ ⟨HW.out.bel, HW.out.al⟩
      case hnp => rfl
      case hv => first | exact ⟨_, fun _ => rfl⟩ | exact ⟨undef, fun _ => rfl⟩
      apply obl_det
      case hrun =>
        intro D y wz hW hD R hR
        have HRR := Lib.hid hR
        clear hR
        have HW := Lib.hid hW
        have c_w := ((DE.out.call HW.out.bel).cell 0 rfl 1)
        clear hW hD
        go_wp2_with fail
        exact HRR.out _ ⟨HW.out.bel, HW.out.al⟩
      case hnp => rfl
      case hv => first | exact ⟨_, fun _ => rfl⟩ | exact ⟨undef, fun _ => rfl⟩
      apply obl_det
      case hrun =>
        intro D y wz hW hD R hR
        have HRR := Lib.hid hR
        clear hR
        have HW := Lib.hid hW
        clear hW hD
        go_wp2_with fail
        refine (HN3 _).out.mono ?_
        rintro e w' ⟨rfl, hb⟩
        have HW2 := Lib.hid (PlG.next HW.out hb)
        clear hb
        go_wp2_with fail
        exact HRR.out _ ⟨HW2.out.bel, HW2.out.al⟩
      case hnp => rfl
      case hv => first | exact ⟨_, fun _ => rfl⟩ | exact ⟨undef, fun _ => rfl⟩
      apply obl_det
      case hrun =>
        intro D y wz hW hD R hR
        have HRR := Lib.hid hR
        clear hR
        have HW := Lib.hid hW
        have c_w := ((DE.out.call HW.out.bel).cell 1 rfl 0)
        clear hW hD
        go_wp2_with fail
        exact HRR.out _ ⟨HW.out.bel, HW.out.al⟩
      case hnp => rfl
      case hv => first | exact ⟨_, fun _ => rfl⟩ | exact ⟨undef, fun _ => rfl⟩
      apply obl_det
      case hrun =>
        intro D y wz hW hD R hR
        have HRR := Lib.hid hR
        clear hR
        have HW := Lib.hid hW
        clear hW hD
        go_wp2_with fail
        exact HRR.out _ ⟨HW.out.bel, HW.out.al⟩
      case hnp => rfl
      case hv => first | exact ⟨_, fun _ => rfl⟩ | exact ⟨undef, fun _ => rfl⟩
      apply obl_det
      case hrun =>
        intro D y wz hW hD R hR
        have HRR := Lib.hid hR
        clear hR
        have HW := Lib.hid hW
        have c_w := ((DE.out.call HW.out.bel).cell 0 rfl 2)
        clear hW hD
        go_wp2_with fail
        exact HRR.out _ ⟨HW.out.bel, HW.out.al⟩
      case hnp => rfl
      case hv => first | exact ⟨_, fun _ => rfl⟩ | exact ⟨undef, fun _ => rfl⟩
      apply obl_det
      case hrun =>
        intro D y wz hW hD R hR
        have HRR := Lib.hid hR
        clear hR
        have HW := Lib.hid hW
        clear hW hD
        go_wp2_with fail
        refine (HN30 _).out.mono ?_
        rintro e w' ⟨rfl, hb⟩
        have HW2 := Lib.hid (PlG.next HW.out hb)
        clear hb
        go_wp2_with fail
        exact HRR.out _ ⟨HW2.out.bel, HW2.out.al⟩
      case hnp => rfl
      case hv => first | exact ⟨_, fun _ => rfl⟩ | exact ⟨undef, fun _ => rfl⟩
      apply obl_det
      case hrun =>
        intro D y wz hW hD R hR
        have HRR := Lib.hid hR
        clear hR
        have HW := Lib.hid hW
        have c_w := ((DE.out.call HW.out.bel).cell 1 rfl 0)
        clear hW hD
        go_wp2_with fail
        exact HRR.out _ ⟨HW.out.bel, HW.out.al⟩
      case hnp => rfl
      case hv => first | exact ⟨_, fun _ => rfl⟩ | exact ⟨undef, fun _ => rfl⟩
      apply obl_det
      case hrun =>
        intro D y wz hW hD R hR
        have HRR := Lib.hid hR
        clear hR
        have HW := Lib.hid hW
        clear hW hD
        go_wp2_with fail
        exact HRR.out _ ⟨HW.out.bel, HW.out.al⟩
      case hnp => rfl
      case hv => first | exact ⟨_, fun _ => rfl⟩ | exact ⟨undef, fun _ => rfl⟩
      apply obl_det
      case hrun =>
        intro D y wz hW hD R hR
        have HRR := Lib.hid hR
        clear hR
        have HW := Lib.hid hW
        clear hW hD
        go_wp2_with fail
        exact HRR.out _ ⟨HW.out.bel, HW.out.al⟩
      case hnp => rfl
      case hv => first | exact ⟨_, fun _ => rfl⟩ | exact ⟨undef, fun _ => rfl⟩
      apply obl_det
      case hrun =>
        intro D y wz hW hD R hR
        have HRR := Lib.hid hR
        clear hR
        have HW := Lib.hid hW
        clear hW hD
        go_wp2_with fail
        exact HRR.out _ ⟨HW.out.bel, HW.out.al⟩
      case hnp => rfl
      case hv => first | exact ⟨_, fun _ => rfl⟩ | exact ⟨undef, fun _ => rfl⟩
      apply obl_priv 12
      case hd => rfl
      case hp => rfl
      case hrun =>
        intro D y wz hW hD R hR
        have HRR := Lib.hid hR
        clear hR
        have h14 : D 14 = false := hD.post _ 14 rfl (by kernel_rfl)
        have HBS := Lib.hid hW.bel
        have H14 := Lib.hid h14
        clear hW hD h14
        go_wp2_with fail
        refine HRR.out (.pointer (some ⟨wz.heap.size, 0, none⟩)) _ ⟨HBS.out.alloc HBS.out.size _, fun _ => ⟨_, rfl, HBS.out.size, ?_⟩⟩
        show _ = some (Obj.cells (if D 14 = true then _ else _) 54)
        rw [H14.out]
        exact heap_alloc_new _ _
      apply obl_det
      case hrun =>
        intro D y wz hW hD R hR
        have HRR := Lib.hid hR
        clear hR
        have h14 : D 14 = false := hD.not
        obtain ⟨gp, e, hgt, hcell⟩ := hW.al (hD.pre _ 13 rfl (by kernel_rfl))
        rw [h14] at hcell
        have CC := Lib.hid (Bs.snoc (l := []) (w := we) ⟨by simp, by simp, by simp, hW.bel⟩ (by simp) hcell hgt)
        have E := Lib.hid e
        have HGT := Lib.hid hgt
        clear hW hD h14 hcell e hgt
        refine wpList_store_bs rfl 54 _ _ rfl CC.out 0 gp #[.int .i64 0, .int .i64 3, .int .i64 30, .bool true] _ _ rfl E.out rfl infoDD rfl (by simp [Value.oneCell']) ?_
        intro w4 hC4
        simp only [Act.put]
        go_simp
        exact HRR.out _ ⟨hC4.bel, fun _ => ⟨gp, E.out, HGT.out, hC4.get 0 rfl⟩⟩
      case hnp => rfl
      case hv => first | exact ⟨_, fun _ => rfl⟩ | exact ⟨undef, fun _ => rfl⟩
      apply obl_nil
      intro D y w8 hall hW
      obtain ⟨gp, e, hgt, hcell⟩ := hW.al (hall 13 (by decide))
      rw [hall 14 (by decide)] at hcell
      have HGT := Lib.hid hgt
      have hcell2 : w8.heap[gp]? = some (.cells #[.int .i64 0, .int .i64 3, .int .i64 30, .bool true] 54) := by simpa using hcell
      have HCE := Lib.hid hcell2
      have HBW := Lib.hid hW.bel
      clear hW hall hcell hgt hcell2
      rw [e]
      clear e
      have C8 := Lib.hid (CC.out.call (DE.out.call HBW.out).bel)
      have HR8 := Lib.hid (ownsRow.below HRc.out (DE.out.call HBW.out).bel)
      have HL8 : Hid (w3.heap.size ≤ w8.heap.size) := Nat.le_trans HLc.out (DE.out.call HBW.out).bel.size
      have HGL : Hid (gp < w8.heap.size) := block_lt HCE.out
      clear CC HRc HLc C6 DE
      go_wp2_with (first | (refine wpList_load_row rfl 106 _ rfl _ rfl _ _ _ _ (C8.out.get 3 rfl) Tryz.underlying106 rfl infoDsh ?_) | (refine wpList_load_row rfl 54 _ rfl _ rfl _ _ _ _ HCE.out Tryz.underlying54 rfl infoDD ?_))
      refine (HDP1 _).out.mono ?_
      rintro e w9 ⟨rfl, hb⟩
      have C9 := Lib.hid (C8.out.call hb)
      have HR9 := Lib.hid (ownsRow.below HR8.out hb)
      have HL9 : Hid (w3.heap.size ≤ w9.heap.size) := Nat.le_trans HL8.out hb.size
      have HC9 := Lib.hid (block_keep HCE.out hb)
      clear hb C8 HR8 HL8
      have c_p := C9.out.cell 1 rfl 0
      go_wp2_with fail
      refine (HMU _).out.mono ?_
      rintro e w10 ⟨rfl, rfl⟩
      go_upto_region 15 with fail
      go_wp2_with (first | (refine wpList_load_row rfl 54 _ rfl _ rfl _ _ _ _ HC9.out Tryz.underlying54 rfl infoDD ?_) | (refine wpList_append_own _ rfl _ _ 35 rfl w3.heap.size 54 i0 (.agg #[.int .i64 0, .int .i64 0, .int .i64 0, .bool false]) 4 32 Tryz.underlying35 HA0.out HA1.out HA2.out HA3.out rfl (by decide) (.slice pa 1 pc) 1 [.int .i64 0, .int .i64 3, .int .i64 40, .bool false] rfl (HR9.out.alloc _) ⟨w10.heap.size, 0, none⟩ 1 1 [.int .i64 0, .int .i64 3, .int .i64 30, .bool true] rfl rfl (cell_news _ _ _ _ (heap_alloc_new _ _)) (four_dip _ _ _ _) (by unfold maxLen; omega) (by omega) (by have := HL9.out; simp; omega) ?_; intro v' w11 hown hgrow _; obtain ⟨pb, pd, rfl⟩ := ownsRow_slice hown; have HO := Lib.hid hown; have C11 : Hid (Bs w [(w.heap.size, .cells (dshopC exS (.slice va 2 vc)) 30), (w.heap.size + 1, .cells #[.slice pa 1 pc] 35), (w.heap.size + 2, .cells #[.int .i64 0] 41), (w2.heap.size, .cells (dshopC exS (.slice va 2 vc)) 106)] w11) := Lib.hid ((C9.out.alloc _).grownB (HR9.out.alloc _) hgrow HZ.out (by have := HZ1.out; have := HZ2.out; have := HZ0.out; intro p hp; simp at hp; rcases hp with rfl | rfl | rfl | rfl <;> simp only <;> omega)); have HL11 : Hid (w3.heap.size ≤ w11.heap.size) := (by have h1 := hgrow.size; have h2 := HL9.out; unfold Hid; simp at h1; omega); clear hown hgrow C9 c_p) | (refine wpList_cell_but rfl 35 _ _ rfl (w.heap.size + 1) 0 _ _ (C11.out.get 1 rfl) rfl (.slice pb 2 pd) rfl (by simp) rfl infoDDs ?_; intro w12 hg hb; have C12 : Hid (Bs w [(w.heap.size, .cells (dshopC exS (.slice va 2 vc)) 30), (w.heap.size + 1, .cells #[.slice pb 2 pd] 35), (w.heap.size + 2, .cells #[.int .i64 0] 41), (w2.heap.size, .cells (dshopC exS (.slice va 2 vc)) 106)] w12) := C11.out.but 1 rfl hb hg; have HO12 := Lib.hid (ownsRow.low HO.out hb HZ1.out); have HL12 : Hid (w3.heap.size ≤ w12.heap.size) := Nat.le_trans HL11.out hb.size; clear hg hb C11))
      refine ⟨⟨2, _, by omega, rfl, C12.out, HL12.out, HO12.out⟩, ?_⟩
      decide

    · have HR : Hid (wr.ownsRow w3.heap.size 54 4 pv 2 [.int .i64 0, .int .i64 3, .int .i64 40, .bool false, .int .i64 0, .int .i64 3, .int .i64 30, .bool true]) := hrow
      clear hrow
      rw [show exRest 2 = ⟨#[]⟩ from rfl]
      obtain ⟨pa, pc, rfl⟩ := ownsRow_slice HR.out
      have c_p := C.out.cell 1 rfl 0
      go_upto_region 16 with fail
      go_wp2_with (first | (refine wpList_cell_but rfl 35 _ _ rfl (w.heap.size + 1) 0 _ _ (C.out.get 1 rfl) rfl (.slice pa 2 pc) rfl (by simp) rfl infoDDs ?_; intro w12 hg hb; have C12 : Hid (Bs w [(w.heap.size, .cells (dshopC exS (.slice va 2 vc)) 30), (w.heap.size + 1, .cells #[.slice pa 2 pc] 35), (w.heap.size + 2, .cells #[.int .i64 0] 41), (w2.heap.size, .cells (dshopC exS (.slice va 2 vc)) 106)] w12) := C.out.but 1 rfl hb hg; have HO12 := Lib.hid (ownsRow.low HR.out hb HZ1.out); clear hg hb c_p) | (refine wpList_cell_but rfl 41 _ _ rfl (w.heap.size + 2) 0 _ _ (C12.out.get 2 rfl) rfl (.int .i64 0) rfl (by simp) rfl infoErr4 ?_; intro w13 hg hb; have C13 : Hid (Bs w [(w.heap.size, .cells (dshopC exS (.slice va 2 vc)) 30), (w.heap.size + 1, .cells #[.slice pa 2 pc] 35), (w.heap.size + 2, .cells #[.int .i64 0] 41), (w2.heap.size, .cells (dshopC exS (.slice va 2 vc)) 106)] w13) := C12.out.but 2 rfl hb hg; have HO13 := Lib.hid (ownsRow.low HO12.out hb HZ0.out); clear hg hb C12 HO12))
      have z1 := C13.out.cell 1 rfl 0
      have z2 := C13.out.cell 2 rfl 0
      refine leaves_cons (f := 71) (args := #[.pointer (some ⟨w.heap.size + 1, 0, none⟩), .pointer (some ⟨w.heap.size + 2, 0, none⟩)]) (by simp) (by simp [go_sem]) ?_
      refine (catch71 _ _ _).mono ?_
      rintro e u' w'' ⟨rfl, rfl, rfl⟩
      have HD : Hid (DipsIn w''.heap.size w'' (.slice pa 2 pc) exP) := dips_of (l := exP) (xs := [.int .i64 0, .int .i64 3, .int .i64 40, .bool false, .int .i64 0, .int .i64 3, .int .i64 30, .bool true]) HO13.out (by decide) (fun i j hi hj => by
        rcases (by simp [exP] at hi; omega : i = 0 ∨ i = 1) with rfl | rfl <;> rcases (by omega : j = 0 ∨ j = 1 ∨ j = 2 ∨ j = 3) with rfl | rfl | rfl | rfl <;> rfl)
      simp [Leaves, settle, results, Tryz.results38, go_sem, z1, z2]
      exact ⟨HD.out, C13.out.bel⟩
end Go.Proofs.YtpkggjobdmchlaaGreatDoor
