/- MouldEven: the walk. -/
import Derived.Test.YtafdagjdpnaddaaAW
import Derived.Test.YtafdagjdpnaddaaBm
namespace Go.Proofs.Ytafdagjdpnaddaa
open Go.RowKit
def evenM (m : Mou) (x : Int) : Mou := { m with pl := x, ph := x, wl := x, wh := x }
theorem fits_const {x : Int} {l : List Int} (h : Fits2 x x l) : l = List.replicate l.length x := by
  apply List.ext_getElem (by simp)
  intro i h1 h2
  have := h i h1
  simp only [List.getD_eq_getElem?_getD, List.getElem?_eq_getElem h1, Option.getD_some] at this
  rw [List.getElem_replicate]
  omega
theorem fits_repl (x : Int) (n : Nat) : Fits2 x x (List.replicate n x) := fun i hi => by
  rw [List.length_replicate] at hi
  simp [List.getD, hi]
theorem even_warm {m : Mou} {x : Int} (h : checkE (evenM m x) = 0) (hot : Bool) (n : Nat) : warmL (evenM m x) hot n = List.replicate m.rings.toNat x := by
  have hv := valid_of_check h
  have hp : sameP (evenM m x) hot = List.replicate m.rings.toNat x := by unfold sameP evenM; cases hot <;> rfl
  have hw : sameW (evenM m x) hot n = List.replicate n x := by unfold sameW evenM; cases hot <;> rfl
  have hf := runL_fits (a := x) (b := x) (show 0 ≤ (evenM m x).give by have := hv.g1; omega) hv.g5 (List.replicate n x) (List.replicate m.rings.toNat x) (fits_repl x _) (fits_repl x _)
  unfold warmL
  rw [hp, hw]
  have := fits_const hf
  rw [runL_length, List.length_replicate] at this
  exact this
theorem even_zip (x : Int) (r : Nat) : (List.replicate r x).zip (List.replicate r x) = List.replicate r (x, x) := by
  induction r with
  | zero => rfl
  | succ r ih => simp [List.replicate_succ, ih]
set_option maxRecDepth 100000 in
set_option maxHeartbeats 8000000 in
theorem even_law (m : Mou) (y z : Int) (h0 : 0 ≤ y) (h6 : y ≤ 65535) (g0 : 0 ≤ z) (g6 : z ≤ 65535) (w : World) : Calls Try.prog 14 #[.agg #[.int .i64 m.rings, .int .i64 m.give, .int .i64 m.pl, .int .i64 m.ph, .int .i64 m.wl, .int .i64 m.wh, .int .i64 m.set, .int .i64 m.shrink, .int .i64 m.skin, .int .i64 m.fill, .int .i64 m.gap, .int .i64 m.deep], .int .u16 y, .int .u16 z] w (fun e w' => e = .returned (.bool true) ∧ Below w.heap.size w w') := by
  have C0 := Lib.hid ((Bs.nil w).push _ rfl (.cells #[.int .i64 m.rings, .int .i64 m.give, .int .i64 m.pl, .int .i64 m.ph, .int .i64 m.wl, .int .i64 m.wh, .int .i64 m.set, .int .i64 m.shrink, .int .i64 m.skin, .int .i64 m.fill, .int .i64 m.gap, .int .i64 m.deep] 25))
  have hn0 : 0 ≤ z % 601 := by omega
  have hn6 : z % 601 ≤ 600 := by omega
  have hx0 : 0 ≤ y % 2001 := by omega
  have hx6 : y % 2001 ≤ 2000 := by omega
  go_enter Try.func14, Try.ntmps14
  go_wp2_with fail
  generalize y % 2001 = x at *
  generalize z % 601 = z' at *
  obtain ⟨N, rfl⟩ : ∃ N : Nat, z' = N := ⟨z'.toNat, by omega⟩
  have hN6 : N ≤ 600 := by omega
  clear hn0 hn6
  refine (span36 x x _).mono ?_
  rintro e w1 ⟨rfl, hb⟩
  have C1 := Lib.hid (C0.out.call hb)
  clear hb C0
  go_wp2_with fail
  refine (span36 x x _).mono ?_
  rintro e w2 ⟨rfl, hb⟩
  have C2 := Lib.hid (C1.out.call hb)
  clear hb C1
  go_wp2_with (first
    | (refine wpList_store_bsmid rfl 23 _ _ rfl C2.out 0 w.heap.size 2 #[.int .i64 x, .int .i64 x] [.int .i64 m.rings, .int .i64 m.give] [.int .i64 m.pl, .int .i64 m.ph, .int .i64 m.wl, .int .i64 m.wh, .int .i64 m.set, .int .i64 m.shrink, .int .i64 m.skin, .int .i64 m.fill, .int .i64 m.gap, .int .i64 m.deep] 25 rfl rfl rfl rfl info23 (by simp) (by simp [Value.oneCell']) ?_; intro w3 hC3)
    | (refine wpList_store_bsmid rfl 23 _ _ rfl hC3 0 w.heap.size 4 #[.int .i64 x, .int .i64 x] [.int .i64 m.rings, .int .i64 m.give, .int .i64 x, .int .i64 x] [.int .i64 m.wl, .int .i64 m.wh, .int .i64 m.set, .int .i64 m.shrink, .int .i64 m.skin, .int .i64 m.fill, .int .i64 m.gap, .int .i64 m.deep] 25 rfl rfl rfl rfl info23 (by simp) (by simp [Value.oneCell']) ?_; intro w4 hC4; clear hC3)
    | refine wpList_load_bs rfl 25 _ rfl hC4 0 w.heap.size #[.int .i64 m.rings, .int .i64 m.give, .int .i64 x, .int .i64 x, .int .i64 x, .int .i64 x, .int .i64 m.set, .int .i64 m.shrink, .int .i64 m.skin, .int .i64 m.fill, .int .i64 m.gap, .int .i64 m.deep] 25 rfl rfl _ Try.underlying25 rfl info25 ?_)
  have C4 : Hid (Bs w [(w.heap.size, .cells #[.int .i64 m.rings, .int .i64 m.give, .int .i64 x, .int .i64 x, .int .i64 x, .int .i64 x, .int .i64 m.set, .int .i64 m.shrink, .int .i64 m.skin, .int .i64 m.fill, .int .i64 m.gap, .int .i64 m.deep] 25)] w4) := hC4
  clear hC4 C2
  by_cases hc : checkE (evenM m x) = 0
  rotate_left
  · have hv : warmV (evenM m x) N = ([], checkE (evenM m x)) := by unfold warmV; rw [if_pos hc]
    have hwc := warm_any (evenM m x) N w4
    rw [hv] at hwc
    have HC : ∀ w, Hid (Calls Try.prog 19 #[.agg #[.int .i64 m.rings, .int .i64 m.give, .int .i64 x, .int .i64 x, .int .i64 x, .int .i64 x, .int .i64 m.set, .int .i64 m.shrink, .int .i64 m.skin, .int .i64 m.fill, .int .i64 m.gap, .int .i64 m.deep]] w fun e w' => e = .returned (.int .i64 (checkE (evenM m x))) ∧ Below w.heap.size w w') := fun w => checkR_any (evenM m x) w
    have hz : (checkE (evenM m x) != 0) = true := by simpa using hc
    clear hc hv
    generalize checkE (evenM m x) = E at *
    refine hwc.mono ?_
    rintro e w5 ⟨v, rfl, ho, hb⟩
    obtain ⟨a, c, rfl, -, -, -⟩ := ho.spans (by simp)
    have C5 := Lib.hid (C4.out.call hb)
    clear ho hb hwc C4
    go_wp2_with (refine wpList_load_bs rfl 25 _ rfl C5.out 0 w.heap.size #[.int .i64 m.rings, .int .i64 m.give, .int .i64 x, .int .i64 x, .int .i64 x, .int .i64 x, .int .i64 m.set, .int .i64 m.shrink, .int .i64 m.skin, .int .i64 m.fill, .int .i64 m.gap, .int .i64 m.deep] 25 rfl rfl _ Try.underlying25 rfl info25 ?_)
    refine (HC _).out.mono ?_
    rintro e w6 ⟨rfl, hb⟩
    have C6 := Lib.hid (C5.out.call hb)
    clear hb C5
    go_wp2_with fail
    refine (awake_any _).mono ?_
    rintro e w7 ⟨rfl, hb⟩
    have HBel := Lib.hid (C6.out.call hb).bel
    clear hb C6
    go_wp2
    go_ret
    exact ⟨rfl, HBel.out⟩
  have hv : warmV (evenM m x) N = (List.replicate m.rings.toNat (x, x), 0) := by
    unfold warmV
    rw [if_neg (by simp [hc]), if_neg (by simp [within]; omega), even_warm hc, even_warm hc, even_zip]
  have hvd := valid_of_check hc
  have hr1 : 1 ≤ m.rings := hvd.r1
  have hr8 : m.rings ≤ 8 := hvd.r8
  have hwc := warm_any (evenM m x) N w4
  rw [hv] at hwc
  have HC : ∀ w, Hid (Calls Try.prog 19 #[.agg #[.int .i64 m.rings, .int .i64 m.give, .int .i64 x, .int .i64 x, .int .i64 x, .int .i64 x, .int .i64 m.set, .int .i64 m.shrink, .int .i64 m.skin, .int .i64 m.fill, .int .i64 m.gap, .int .i64 m.deep]] w fun e w' => e = .returned (.int .i64 0) ∧ Below w.heap.size w w') := fun w => by
    have := checkR_any (evenM m x) w
    rw [hc] at this
    exact this
  obtain ⟨r, hr⟩ : ∃ r : Nat, m.rings = r := ⟨m.rings.toNat, by omega⟩
  rw [hr, Int.toNat_natCast] at hwc
  have HR := Lib.hid hr
  have hr1' : 1 ≤ r := by omega
  have hr8' : r ≤ 8 := by omega
  clear hc hv hvd hr hr1 hr8 hx0 hx6 hN6 h0 h6 g0 g6
  refine hwc.mono ?_
  rintro e w5 ⟨v, rfl, ho, hb⟩
  have hs := ho.spans (by simp; omega)
  obtain ⟨a, c, rfl, -, -, hrow⟩ := hs
  have HS := Lib.hid (ho.spans (by simp; omega))
  rw [List.length_replicate] at HS
  rw [List.length_replicate] at hrow ⊢
  obtain ⟨b, o, rfl, hbb, hcell⟩ := hrow.resolve_left (by
    intro h
    have := congrArg List.length h
    simp at this
    omega)
  have HROW : Hid (∀ i, i < r → w5.cell? ⟨b, o + i * 2, none⟩ = some (.int .i64 x) ∧ w5.cell? ⟨b, o + i * 2 + 1, none⟩ = some (.int .i64 x)) := fun i hi => by
    have h := hcell i hi
    have e : (List.replicate r (x, x)).getD i (0, 0) = (x, x) := by simp [List.getD, hi]
    rw [e] at h
    exact h
  have C5 := Lib.hid (C4.out.call hb)
  clear ho hb hwc C4 hcell hrow
  go_wp2_with (refine wpList_load_bs rfl 25 _ rfl C5.out 0 w.heap.size #[.int .i64 m.rings, .int .i64 m.give, .int .i64 x, .int .i64 x, .int .i64 x, .int .i64 x, .int .i64 m.set, .int .i64 m.shrink, .int .i64 m.skin, .int .i64 m.fill, .int .i64 m.gap, .int .i64 m.deep] 25 rfl rfl _ Try.underlying25 rfl info25 ?_)
  refine (HC _).out.mono ?_
  rintro e w6 ⟨rfl, hb⟩
  have C6 := Lib.hid (C5.out.call hb)
  have HROW6 : Hid (∀ i, i < r → w6.cell? ⟨b, o + i * 2, none⟩ = some (.int .i64 x) ∧ w6.cell? ⟨b, o + i * 2 + 1, none⟩ = some (.int .i64 x)) := fun i hi =>
    ⟨(hb.cell (p := ⟨b, o + i * 2, none⟩) hbb).trans (HROW.out i hi).1, (hb.cell (p := ⟨b, o + i * 2 + 1, none⟩) hbb).trans (HROW.out i hi).2⟩
  have hbb6 : b < w6.heap.size := Nat.lt_of_lt_of_le hbb hb.size
  clear hb C5 HROW HS hbb
  go_wp2_with fail
  go_loopw [11] (fun kv wr => ∃ k : Nat, kv = .int .i64 k ∧ k ≤ r ∧ Below w6.heap.size w6 wr) (fun kv _ => r - (intOf kv).toNat)
  case atStart => exact ⟨0, rfl, by omega, Below.refl _ _⟩
  case round =>
    obtain ⟨k, rfl, hk, hb⟩ := hrel
    have CB := Lib.hid hb
    clear hb
    by_cases hlt : k < r
    · go_wp2_with fail
      refine wp_region_inv0 (by kernel_rfl) (by kernel_rfl) (fun _ w' => Below w6.heap.size w6 w') CB.out.drew ?_
      iterate 3
        (apply obl_det
         case hrun =>
           intro D y wz hW hD R hR
           have HRR := Lib.hid hR
           clear hR
           have HW := Lib.hid hW
           clear hW hD
           go_wp2
           exact HRR.out _ HW.out
         case hnp => rfl
         case hv => first | exact ⟨_, fun _ => rfl⟩ | exact ⟨undef, fun _ => rfl⟩)
      apply obl_det
      case hrun =>
        intro D y wz hW hD R hR
        have HRR := Lib.hid hR
        clear hR
        have HW := Lib.hid hW
        have h1 : wz.cell? ⟨b, o + k * 2, none⟩ = some (.int .i64 x) := (hW.cell (p := ⟨b, o + k * 2, none⟩) hbb6).trans (HROW6.out k hlt).1
        have h2 : wz.cell? ⟨b, o + k * 2 + 1, none⟩ = some (.int .i64 x) := (hW.cell (p := ⟨b, o + k * 2 + 1, none⟩) hbb6).trans (HROW6.out k hlt).2
        clear hW hD
        go_wp2
        exact HRR.out _ HW.out
      case hnp => rfl
      case hv => first | exact ⟨_, fun _ => rfl⟩ | exact ⟨undef, fun _ => rfl⟩
      iterate 2
        (apply obl_det
         case hrun =>
           intro D y wz hW hD R hR
           have HRR := Lib.hid hR
           clear hR
           have HW := Lib.hid hW
           clear hW hD
           go_wp2
           exact HRR.out _ HW.out
         case hnp => rfl
         case hv => first | exact ⟨_, fun _ => rfl⟩ | exact ⟨undef, fun _ => rfl⟩)
      apply obl_det
      case hrun =>
        intro D y wz hW hD R hR
        have HRR := Lib.hid hR
        clear hR
        have HW := Lib.hid hW
        clear hW hD
        go_wp2_with fail
        refine (span36 x x _).mono ?_
        rintro e w' ⟨rfl, hb⟩
        have HW2 := Lib.hid (HW.out.trans (hb.mono HW.out.size))
        clear hb
        go_wp2_with fail
        exact HRR.out _ HW2.out
      case hnp => rfl
      case hv => first | exact ⟨_, fun _ => rfl⟩ | exact ⟨undef, fun _ => rfl⟩
      apply obl_det
      case hrun =>
        intro D y wz hW hD R hR
        have HRR := Lib.hid hR
        clear hR
        have HW := Lib.hid hW
        clear hW hD
        go_wp2
        exact HRR.out _ HW.out
      case hnp => rfl
      case hv => first | exact ⟨_, fun _ => rfl⟩ | exact ⟨undef, fun _ => rfl⟩
      apply obl_nil
      intro D y w8 hall hW
      clear hall
      have HW8 := Lib.hid hW
      clear hW CB
      go_wp2_with fail
      refine ⟨⟨k + 1, by push_cast; rfl, by omega, HW8.out⟩, ?_⟩
      simp [intOf]
      omega
    · obtain rfl : r = k := by omega
      have C7 := Lib.hid (C6.out.call CB.out)
      have c0 := C7.out.cell 0 rfl
      rw [HR.out] at c0
      clear C6 CB
      go_wp2_with fail
      refine (awake_any _).mono ?_
      rintro e w7 ⟨rfl, hb⟩
      have HBel := Lib.hid (C7.out.call hb).bel
      clear hb C7 c0
      go_wp2
      go_ret
      exact ⟨rfl, HBel.out⟩
end Go.Proofs.Ytafdagjdpnaddaa
