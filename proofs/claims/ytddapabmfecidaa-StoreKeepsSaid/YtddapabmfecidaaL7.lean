/- StoreKeeps: the walk. -/
import Derived.Test.YtddapabmfecidaaAW
import Derived.Test.YtddapabmfecidaaP7
import Derived.Test.YtddapabmfecidaaH5
import Derived.Test.YtddapabmfecidaaL6
namespace Go.Proofs.Ytddapabmfecidaa
open Go.RowKit
theorem two_allocs (w : World) (a b : Obj) : ((w.alloc a).alloc b).heap[w.heap.size]? = some a ∧ ((w.alloc a).alloc b).heap[w.heap.size + 1]? = some b := by
  refine ⟨(Below.heap_alloc (w.alloc a) b _ (by simp)).trans (heap_alloc_new w a), ?_⟩
  have := heap_alloc_new (w.alloc a) b
  rwa [World.size_alloc] at this
/-- The worlds of the region that draws a truth of a stay in one store and asks for its fate. -/
structure KeW (wr : World) (n : Nat) (way warm : List Int) (d3 d7 d9 d10 d14 d15 : Bool) (y77 y81 y83 y14 : Value) (w' : World) : Prop where
  bel : Below wr.heap.size wr w'
  t77 : d10 = false → d3 = true → IntsIn .i64 w'.heap.size w' y77 way
  t81 : d10 = false → d7 = true → IntsIn .i64 w'.heap.size w' y81 way
  t83 : d10 = false → d9 = true → IntsIn .i64 w'.heap.size w' y83 warm ∧ CapOk y83 n
  box : d14 = true → ∃ b, y14 = .pointer (some ⟨b, 0, none⟩) ∧ wr.heap.size ≤ b ∧ w'.heap[b]? = some (.cells (if d15 then #[.int .i64 (-1), .int .i64 (-1)] else #[.int .i64 0, .int .i64 0]) 23)
theorem KeW.call {wr : World} {n : Nat} {way warm : List Int} {d3 d7 d9 d10 d10' d14 d15 : Bool} {y77 y81 y83 y14 : Value} {w' w'' : World} (h : KeW wr n way warm d3 d7 d9 d10 d14 d15 y77 y81 y83 y14 w') (hd : d10' = false → d10 = false) (hb : Below w'.heap.size w' w'') : KeW wr n way warm d3 d7 d9 d10' d14 d15 y77 y81 y83 y14 w'' := by
  refine ⟨h.bel.trans (hb.mono h.bel.size), fun a b => (h.t77 (hd a) b).next hb, fun a b => (h.t81 (hd a) b).next hb, fun a b => ?_, fun a => ?_⟩
  · obtain ⟨h1, h2⟩ := h.t83 (hd a) b
    exact ⟨h1.next hb, h2⟩
  · obtain ⟨b, h1, h2, h3⟩ := h.box a
    exact ⟨b, h1, h2, block_keep h3 hb⟩
set_option maxRecDepth 100000 in
set_option maxHeartbeats 4000000 in
theorem keeps_law (s : Sea) (vs yv : Value) (x0 x1 : Int) (hx0 : 0 ≤ x0 ∧ x0 ≤ 255) (hx1 : 0 ≤ x1 ∧ x1 ≤ 255) (ys : List Int) (hys : ∀ x ∈ ys, 0 ≤ x ∧ x ≤ 65535) (w : World) (hv : StosIn w.heap.size w vs s.stores) (hy : IntsIn .u16 w.heap.size w yv ys) :
    Calls Try.prog 7 #[.agg #[.int .i64 s.bend, .int .i64 s.days, .int .i64 s.jump, .int .i64 s.times, .int .i64 s.move, vs], .agg #[.int .u8 x0, .int .u8 x1], yv] w (fun e w' => e = .returned (.bool true) ∧ Below w.heap.size w w') := by
  have HV := Lib.hid hv
  have HY := Lib.hid hy
  have HYS := Lib.hid hys
  obtain ⟨asl, csl, rfl, hsl, hslc, -⟩ := hv
  clear hy hys
  have hboth := two_allocs w (.cells #[.int .i64 s.bend, .int .i64 s.days, .int .i64 s.jump, .int .i64 s.times, .int .i64 s.move, .slice asl s.stores.length csl] 31) (.cells #[.int .u8 x0, .int .u8 x1] 47)
  have C0 : Hid (Below w.heap.size w ((w.alloc (.cells #[.int .i64 s.bend, .int .i64 s.days, .int .i64 s.jump, .int .i64 s.times, .int .i64 s.move, .slice asl s.stores.length csl] 31)).alloc (.cells #[.int .u8 x0, .int .u8 x1] 47))) := ((Below.refl _ _).alloc (Nat.le_refl _) _).alloc (by simp) _
  have R0 := Lib.hid hboth.1
  have X0 := Lib.hid hboth.2
  clear hboth
  obtain ⟨ok, hok⟩ : ∃ ok, s.ok = ok := ⟨_, rfl⟩
  have HOK := Lib.hid hok
  go_enter Try.func7, Try.ntmps7
  go_wp2_with fail
  refine (valid_any s _ _ ((HV.out.below C0.out).mono C0.out.size) _ HOK.out).mono ?_
  rintro e' w1 ⟨rfl, hbw⟩
  have C1 := Lib.hid (C0.out.trans (hbw.mono C0.out.size))
  have R1 := Lib.hid (block_keep R0.out hbw)
  have X1 := Lib.hid (block_keep X0.out hbw)
  clear hbw C0 R0 X0 hok
  have cs1 := fun i => cell_of_row w1 _ i _ _ _ R1.out
  cases ok
  · have hne : (checkV s).2.2 ≠ 0 := by
      intro h
      have := HOK.out
      unfold Sea.ok at this
      rw [h] at this
      cases this
    have hkv : keepV s 0 0 = (0, (checkV s).2.2) := by unfold keepV; rw [if_neg hne]
    have hzz : ((checkV s).2.2 != 0) = true := by simpa using hne
    go_wp2_with fail
    have hc := keeps_any s (.slice asl s.stores.length csl) 0 0 w1 ((HV.out.below C1.out).mono C1.out.size)
    rw [hkv] at hc
    generalize (checkV s).2.2 = e at *
    clear hne hkv cs1
    refine hc.mono ?_
    rintro e' w2 ⟨rfl, hbw⟩
    have C2 := Lib.hid (C1.out.trans (hbw.mono C1.out.size))
    clear hbw hc
    go_wp2_with fail
    refine (awake_any _).mono ?_
    rintro e' w3 ⟨rfl, hbw⟩
    have C3 := Lib.hid (C2.out.trans (hbw.mono C2.out.size))
    clear hbw
    go_wp2_with fail
    go_ret
    exact ⟨rfl, C3.out⟩
  · have hchk : (checkV s).2.2 = 0 := by
      have := HOK.out
      unfold Sea.ok at this
      simpa using this
    have HCH := Lib.hid hchk
    have HG := Lib.hid (good_of_ok hchk)
    have hst := HG.out.stores
    have hl8 := HG.out.len
    clear hchk
    obtain ⟨i, hi, him⟩ : ∃ i : Nat, (x0 % (s.stores.length : Int)) = i ∧ i < s.stores.length := by
      have h1 := Int.emod_nonneg x0 (show (s.stores.length : Int) ≠ 0 by omega)
      have h2 := Int.emod_lt_of_pos x0 (show (0 : Int) < s.stores.length by omega)
      exact ⟨(x0 % (s.stores.length : Int)).toNat, by omega, by omega⟩
    obtain ⟨day, hday, hdm⟩ : ∃ day : Nat, (x1 % (s.len : Int)) = day ∧ day < s.len := by
      have h1 := Int.emod_nonneg x1 (show (s.len : Int) ≠ 0 by omega)
      have h2 := Int.emod_lt_of_pos x1 (show (0 : Int) < s.len by omega)
      exact ⟨(x1 % (s.len : Int)).toNat, by omega, by omega⟩
    have HI := Lib.hid hi
    have HDY := Lib.hid hday
    have hz1 : ((s.stores.length : Int) == 0) = false := beq_eq_false_iff_ne.2 (by omega)
    have hz2 : ((s.len : Int) == 0) = false := beq_eq_false_iff_ne.2 (by omega)
    have hm0 : 0 ≤ x0 % (s.stores.length : Int) := by omega
    have hm1 : x0 % (s.stores.length : Int) < (s.stores.length : Int) := by omega
    have hm2 : 0 ≤ x1 % (s.len : Int) := by omega
    have hm3 : x1 % (s.len : Int) < (s.len : Int) := by omega
    clear hi hday
    go_upto_region 4 with fail
    refine wp_region_inv0 (by kernel_rfl) (by kernel_rfl) (fun _ w' => Below w1.heap.size w1 w') (Below.refl _ _).drew ?_
    apply obl_det
    case hrun =>
      intro D y wz hW hD R hR
      have HRR := Lib.hid hR
      have HW := Lib.hid hW
      have cz := fun i => cell_of_row wz _ i _ _ _ (block_keep R1.out HW.out)
      have cx := fun i => cell_of_row wz _ i _ _ _ (block_keep X1.out HW.out)
      clear hR hD hW
      go_wp2
      exact HRR.out _ HW.out
    case hnp => rfl
    case hv => first | exact ⟨_, fun _ => rfl⟩ | exact ⟨undef, fun _ => rfl⟩
    apply obl_det
    case hrun =>
      intro D y wz hW hD R hR
      have HRR := Lib.hid hR
      have HW := Lib.hid hW
      have cz := fun i => cell_of_row wz _ i _ _ _ (block_keep R1.out HW.out)
      have cx := fun i => cell_of_row wz _ i _ _ _ (block_keep X1.out HW.out)
      clear hR hD hW
      go_wp2
      exact HRR.out _ HW.out
    case hnp => rfl
    case hv => first | exact ⟨_, fun _ => rfl⟩ | exact ⟨undef, fun _ => rfl⟩
    apply obl_det
    case hrun =>
      intro D y wz hW hD R hR
      have HRR := Lib.hid hR
      have HW := Lib.hid hW
      have cz := fun i => cell_of_row wz _ i _ _ _ (block_keep R1.out HW.out)
      have cx := fun i => cell_of_row wz _ i _ _ _ (block_keep X1.out HW.out)
      clear hR hD hW
      go_wp2
      exact HRR.out _ HW.out
    case hnp => rfl
    case hv => first | exact ⟨_, fun _ => rfl⟩ | exact ⟨undef, fun _ => rfl⟩
    apply obl_det
    case hrun =>
      intro D y wz hW hD R hR
      have HRR := Lib.hid hR
      have HW := Lib.hid hW
      have cz := fun i => cell_of_row wz _ i _ _ _ (block_keep R1.out HW.out)
      have cx := fun i => cell_of_row wz _ i _ _ _ (block_keep X1.out HW.out)
      clear hR hD hW
      go_wp2
      exact HRR.out _ HW.out
    case hnp => rfl
    case hv => first | exact ⟨_, fun _ => rfl⟩ | exact ⟨undef, fun _ => rfl⟩
    apply obl_det
    case hrun =>
      intro D y wz hW hD R hR
      have HRR := Lib.hid hR
      have HW := Lib.hid hW
      have cz := fun i => cell_of_row wz _ i _ _ _ (block_keep R1.out HW.out)
      have cx := fun i => cell_of_row wz _ i _ _ _ (block_keep X1.out HW.out)
      clear hR hD hW
      go_wp2
      exact HRR.out _ HW.out
    case hnp => rfl
    case hv => first | exact ⟨_, fun _ => rfl⟩ | exact ⟨undef, fun _ => rfl⟩
    apply obl_det
    case hrun =>
      intro D y wz hW hD R hR
      have HRR := Lib.hid hR
      have HW := Lib.hid hW
      have cz := fun i => cell_of_row wz _ i _ _ _ (block_keep R1.out HW.out)
      have cx := fun i => cell_of_row wz _ i _ _ _ (block_keep X1.out HW.out)
      clear hR hD hW
      go_wp2
      exact HRR.out _ HW.out
    case hnp => rfl
    case hv => first | exact ⟨_, fun _ => rfl⟩ | exact ⟨undef, fun _ => rfl⟩
    apply obl_det
    case hrun =>
      intro D y wz hW hD R hR
      have HRR := Lib.hid hR
      have HW := Lib.hid hW
      have cz := fun i => cell_of_row wz _ i _ _ _ (block_keep R1.out HW.out)
      have cx := fun i => cell_of_row wz _ i _ _ _ (block_keep X1.out HW.out)
      clear hR hD hW
      go_wp2
      exact HRR.out _ HW.out
    case hnp => rfl
    case hv => first | exact ⟨_, fun _ => rfl⟩ | exact ⟨undef, fun _ => rfl⟩
    apply obl_det
    case hrun =>
      intro D y wz hW hD R hR
      have HRR := Lib.hid hR
      have HW := Lib.hid hW
      have cz := fun i => cell_of_row wz _ i _ _ _ (block_keep R1.out HW.out)
      have cx := fun i => cell_of_row wz _ i _ _ _ (block_keep X1.out HW.out)
      clear hR hD hW
      go_wp2
      exact HRR.out _ HW.out
    case hnp => rfl
    case hv => first | exact ⟨_, fun _ => rfl⟩ | exact ⟨undef, fun _ => rfl⟩
    apply obl_det
    case hrun =>
      intro D y wz hW hD R hR
      have HRR := Lib.hid hR
      have HW := Lib.hid hW
      have cz := fun i => cell_of_row wz _ i _ _ _ (block_keep R1.out HW.out)
      have cx := fun i => cell_of_row wz _ i _ _ _ (block_keep X1.out HW.out)
      clear hR hD hW
      go_wp2
      exact HRR.out _ HW.out
    case hnp => rfl
    case hv => first | exact ⟨_, fun _ => rfl⟩ | exact ⟨undef, fun _ => rfl⟩
    apply obl_det
    case hrun =>
      intro D y wz hW hD R hR
      have HRR := Lib.hid hR
      have HW := Lib.hid hW
      have cz := fun i => cell_of_row wz _ i _ _ _ (block_keep R1.out HW.out)
      have cx := fun i => cell_of_row wz _ i _ _ _ (block_keep X1.out HW.out)
      clear hR hD hW
      go_wp2
      exact HRR.out _ HW.out
    case hnp => rfl
    case hv => first | exact ⟨_, fun _ => rfl⟩ | exact ⟨undef, fun _ => rfl⟩
    apply obl_det
    case hrun =>
      intro D y wz hW hD R hR
      have HRR := Lib.hid hR
      have HW := Lib.hid hW
      have cz := fun i => cell_of_row wz _ i _ _ _ (block_keep R1.out HW.out)
      have cx := fun i => cell_of_row wz _ i _ _ _ (block_keep X1.out HW.out)
      clear hR hD hW
      go_wp2
      exact HRR.out _ HW.out
    case hnp => rfl
    case hv => first | exact ⟨_, fun _ => rfl⟩ | exact ⟨undef, fun _ => rfl⟩
    apply obl_det
    case hrun =>
      intro D y wz hW hD R hR
      have HRR := Lib.hid hR
      have HW := Lib.hid hW
      have CZ := Lib.hid (C1.out.trans (HW.out.mono C1.out.size))
      clear hR hD hW
      have hc := refDays_any s (.slice asl s.stores.length csl) wz ((HV.out.below CZ.out).mono CZ.out.size) (by omega)
      go_wp2_with fail
      refine hc.mono ?_
      rintro e w' ⟨rfl, hbw⟩
      go_wp2_with fail
      exact HRR.out _ (HW.out.trans (hbw.mono HW.out.size))
    case hnp => rfl
    case hv => first | exact ⟨_, fun _ => rfl⟩ | exact ⟨undef, fun _ => rfl⟩
    apply obl_det
    case hrun =>
      intro D y wz hW hD R hR
      have HRR := Lib.hid hR
      have HW := Lib.hid hW
      have cz := fun i => cell_of_row wz _ i _ _ _ (block_keep R1.out HW.out)
      have cx := fun i => cell_of_row wz _ i _ _ _ (block_keep X1.out HW.out)
      clear hR hD hW
      go_wp2
      exact HRR.out _ HW.out
    case hnp => rfl
    case hv => first | exact ⟨_, fun _ => rfl⟩ | exact ⟨undef, fun _ => rfl⟩
    apply obl_det
    case hrun =>
      intro D y wz hW hD R hR
      have HRR := Lib.hid hR
      have HW := Lib.hid hW
      have cz := fun i => cell_of_row wz _ i _ _ _ (block_keep R1.out HW.out)
      have cx := fun i => cell_of_row wz _ i _ _ _ (block_keep X1.out HW.out)
      clear hR hD hW
      go_wp2
      exact HRR.out _ HW.out
    case hnp => rfl
    case hv => first | exact ⟨_, fun _ => rfl⟩ | exact ⟨undef, fun _ => rfl⟩
    apply obl_det
    case hrun =>
      intro D y wz hW hD R hR
      have HRR := Lib.hid hR
      have HW := Lib.hid hW
      have cz := fun i => cell_of_row wz _ i _ _ _ (block_keep R1.out HW.out)
      have cx := fun i => cell_of_row wz _ i _ _ _ (block_keep X1.out HW.out)
      clear hR hD hW
      go_wp2
      exact HRR.out _ HW.out
    case hnp => rfl
    case hv => first | exact ⟨_, fun _ => rfl⟩ | exact ⟨undef, fun _ => rfl⟩
    apply obl_nil
    intro D y w2 hall hW
    have C2 := Lib.hid (C1.out.trans (hW.mono C1.out.size))
    have R2 := Lib.hid (block_keep R1.out hW)
    clear hall hW R1 X1 C1 cs1
    simp only [Exit.then]
    have hkk : (x0 % (s.stores.length : Int)) = (i : Int) := HI.out
    have hkd : (x1 % (s.len : Int)) = (day : Int) := HDY.out
    rw [hkk, hkd]
    clear hkk hkd hm0 hm1 hm2 hm3 hz1 hz2
    obtain ⟨n, hkv, hnl, hsafe, hnot⟩ := keep_plain HCH.out him hdm
    have HSAFE := Lib.hid hsafe
    have HNOT := Lib.hid hnot
    have HFG := Lib.hid (fromS_good HG.out hdm)
    have HFC := Lib.hid (fromS_ok HCH.out hdm)
    have HFL := Lib.hid (fromS_len HG.out day)
    have HFN := Lib.hid (fromS_count s day)
    clear hsafe hnot
    have cs2 := fun i => cell_of_row w2 _ i _ _ _ R2.out
    go_wp2_with fail
    have hc := keeps_any s (.slice asl s.stores.length csl) i day w2 ((HV.out.below C2.out).mono C2.out.size)
    rw [hkv] at hc
    clear hkv
    refine hc.mono ?_
    rintro e' w3 ⟨rfl, hbw⟩
    have C3 := Lib.hid (C2.out.trans (hbw.mono C2.out.size))
    have R3 := Lib.hid (block_keep R2.out hbw)
    clear hbw hc C2 R2 cs2
    have cs3 := fun i => cell_of_row w3 _ i _ _ _ R3.out
    go_wp2_with fail
    refine (from_any s HG.out (.slice asl s.stores.length csl) day hdm w3 ((HV.out.below C3.out).mono C3.out.size)).mono ?_
    rintro e' w4 ⟨fv, rfl, hfv, hbw⟩
    have C4 := Lib.hid (C3.out.trans (hbw.mono C3.out.size))
    have R4 := Lib.hid (block_keep R3.out hbw)
    have HFV := Lib.hid hfv
    obtain ⟨af, cf, rfl, -, -⟩ := hfv
    clear hbw C3 R3 cs3
    rw [HFN.out] at HFV ⊢
    have C5 := Lib.hid (C4.out.alloc C4.out.size (.cells #[.int .i64 s.bend, .int .i64 s.days, .int .i64 s.jump, .int .i64 s.times, .int .i64 s.move, .slice af s.stores.length cf] 31))
    have R5 := Lib.hid ((Below.heap_alloc w4 (.cells #[.int .i64 s.bend, .int .i64 s.days, .int .i64 s.jump, .int .i64 s.times, .int .i64 s.move, .slice af s.stores.length cf] 31) _ (block_lt R4.out)).trans R4.out)
    have F5 := Lib.hid (heap_alloc_new w4 (.cells #[.int .i64 s.bend, .int .i64 s.days, .int .i64 s.jump, .int .i64 s.times, .int .i64 s.move, .slice af s.stores.length cf] 31))
    have HFV5 := Lib.hid (HFV.out.next ((Below.refl w4.heap.size w4).alloc (Nat.le_refl _) (.cells #[.int .i64 s.bend, .int .i64 s.days, .int .i64 s.jump, .int .i64 s.times, .int .i64 s.move, .slice af s.stores.length cf] 31)))
    have hq1 : decide ((n : Int) < 0) = false := decide_eq_false (by omega)
    have hq2 : decide ((s.len : Int) - (day : Int) < (n : Int)) = false := decide_eq_false (by omega)
    go_upto_region 7 with fail
    refine wp_world (fun w5 => Below w.heap.size w w5 ∧ w5.heap[w.heap.size]? = some (.cells #[.int .i64 s.bend, .int .i64 s.days, .int .i64 s.jump, .int .i64 s.times, .int .i64 s.move, .slice asl s.stores.length csl] 31) ∧ w5.heap[w4.heap.size]? = some (.cells #[.int .i64 s.bend, .int .i64 s.days, .int .i64 s.jump, .int .i64 s.times, .int .i64 s.move, .slice af s.stores.length cf] 31) ∧ StosIn w5.heap.size w5 (.slice af s.stores.length cf) (fromS s day).stores) ⟨C5.out, R5.out, F5.out, HFV5.out⟩ ?_
    intro w5 h5
    clear C5 R5 F5 HFV5 C4 R4 HFV
    have C5 := Lib.hid h5.1
    have R5 := Lib.hid h5.2.1
    have F5 := Lib.hid h5.2.2.1
    have HFV5 := Lib.hid h5.2.2.2
    clear h5
    have fs5 := fun i => cell_of_row w5 _ i _ _ _ F5.out
    go_wp2_with fail
    have hrd := refDays_any (fromS s day) (.slice af s.stores.length cf) w5 HFV5.out (by rw [HFN.out]; omega)
    rw [HFL.out] at hrd
    have hcast : (((s.len - day : Nat)) : Int) = (s.len : Int) - (day : Int) := by omega
    rw [hcast] at hrd
    refine hrd.mono ?_
    rintro e' w6 ⟨rfl, hbw⟩
    have C6 := Lib.hid (C5.out.trans (hbw.mono C5.out.size))
    have R6 := Lib.hid (block_keep R5.out hbw)
    have F6 := Lib.hid (block_keep F5.out hbw)
    have HFV6 := Lib.hid (HFV5.out.next hbw)
    clear hbw hrd C5 R5 F5 HFV5 fs5
    have fs6 := fun i => cell_of_row w6 _ i _ _ _ F6.out
    clear hq1
    by_cases hn0 : 0 < n
    · have hq3 : decide (0 < (n : Int)) = true := decide_eq_true (by omega)
      have hsf := HSAFE.out hn0
      go_upto_region 10 with fail
      refine wp_region_inv1 (by kernel_rfl) (by kernel_rfl) [77, 81, 83, 14] (fun D y w' => KeW w6 n (List.replicate n (i : Int)) (truthL (fromS s day) (List.replicate n (i : Int)) ys n) (D 3) (D 7) (D 9) (D 10) (D 14) (D 15) (y 77) (y 81) (y 83) (y 14) w' ∧ (D 11 = true → D 10 = true) ∧ (D 12 = true → D 10 = true)) ?_ ?Fq0 ?hFq0 ?_
      · exact ⟨⟨(Below.refl _ _).drew, fun _ h => (by cases h), fun _ h => (by cases h), fun _ h => (by cases h), fun h => (by cases h)⟩, fun h => (by cases h), fun h => (by cases h)⟩
      case hFq0 =>
        intro y
        simp only [fill, List.foldl, Act.put, List.setIfInBounds_toArray, List.set]
        exact rfl
      apply obl_det
      case hrun =>
        intro D y wz hW hD R hR
        have HRR := Lib.hid hR
        have HW := Lib.hid hW
        have cz := fun i => cell_of_row wz _ i _ _ _ (block_keep F6.out HW.out.1.bel)
        clear hR hD hW
        go_wp2
        exact HRR.out _ HW.out
      case hnp => rfl
      case hv => first | exact ⟨_, fun _ => rfl⟩ | exact ⟨undef, fun _ => rfl⟩
      apply obl_det
      case hrun =>
        intro D y wz hW hD R hR
        have HRR := Lib.hid hR
        have HW := Lib.hid hW
        clear hR hD hW
        go_wp2
        exact HRR.out _ HW.out
      case hnp => rfl
      case hv => first | exact ⟨_, fun _ => rfl⟩ | exact ⟨undef, fun _ => rfl⟩
      apply obl_det
      case hrun =>
        intro D y wz hW hD R hR
        have HRR := Lib.hid hR
        have HW := Lib.hid hW
        clear hR hD hW
        go_wp2
        exact HRR.out _ HW.out
      case hnp => rfl
      case hv => first | exact ⟨_, fun _ => rfl⟩ | exact ⟨undef, fun _ => rfl⟩
      apply obl_priv 77
      case hd => rfl
      case hp => rfl
      case hrun =>
        intro D y wz hW hD R hR
        have HRR := Lib.hid hR
        have HW := Lib.hid hW
        clear hR hD hW
        have hc := same_any (i : Int) n (by omega) wz
        go_wp2_with fail
        refine hc.mono ?_
        rintro e w' ⟨tv, rfl, hti, htc, hbw⟩
        go_wp2_with fail
        have hq := HW.out.1.call (d10' := D 10) (fun h => h) hbw
        exact HRR.out tv w' ⟨⟨hq.bel, fun _ _ => hti, hq.t81, hq.t83, hq.box⟩, HW.out.2⟩
      apply obl_det
      case hrun =>
        intro D y wz hW hD R hR
        have HRR := Lib.hid hR
        have HW := Lib.hid hW
        have cz := fun i => cell_of_row wz _ i _ _ _ (block_keep F6.out HW.out.1.bel)
        clear hR hD hW
        go_wp2
        exact HRR.out _ HW.out
      case hnp => rfl
      case hv => first | exact ⟨_, fun _ => rfl⟩ | exact ⟨undef, fun _ => rfl⟩
      apply obl_det
      case hrun =>
        intro D y wz hW hD R hR
        have HRR := Lib.hid hR
        have HW := Lib.hid hW
        clear hR hD hW
        go_wp2
        exact HRR.out _ HW.out
      case hnp => rfl
      case hv => first | exact ⟨_, fun _ => rfl⟩ | exact ⟨undef, fun _ => rfl⟩
      apply obl_det
      case hrun =>
        intro D y wz hW hD R hR
        have HRR := Lib.hid hR
        have HW := Lib.hid hW
        clear hR hD hW
        go_wp2
        exact HRR.out _ HW.out
      case hnp => rfl
      case hv => first | exact ⟨_, fun _ => rfl⟩ | exact ⟨undef, fun _ => rfl⟩
      apply obl_priv 81
      case hd => rfl
      case hp => rfl
      case hrun =>
        intro D y wz hW hD R hR
        have HRR := Lib.hid hR
        have HW := Lib.hid hW
        clear hR hD hW
        have hc := same_any (i : Int) n (by omega) wz
        go_wp2_with fail
        refine hc.mono ?_
        rintro e w' ⟨tv, rfl, hti, htc, hbw⟩
        go_wp2_with fail
        have hq := HW.out.1.call (d10' := D 10) (fun h => h) hbw
        exact HRR.out tv w' ⟨⟨hq.bel, hq.t77, fun _ _ => hti, hq.t83, hq.box⟩, HW.out.2⟩
      apply obl_det
      case hrun =>
        intro D y wz hW hD R hR
        have HRR := Lib.hid hR
        have HW := Lib.hid hW
        clear hR hD hW
        go_wp2
        exact HRR.out _ HW.out
      case hnp => rfl
      case hv => first | exact ⟨_, fun _ => rfl⟩ | exact ⟨undef, fun _ => rfl⟩
      apply obl_priv 83
      case hd => rfl
      case hp => rfl
      case hrun =>
        intro D y wz hW hD R hR
        have HRR := Lib.hid hR
        have H7 : D 7 = true := hD.pre _ 7 rfl (by kernel_rfl)
        have H10 : D 10 = false := hD.post _ 10 rfl (by kernel_rfl)
        have h81 := hW.1.t81 H10 H7
        have HW := Lib.hid hW
        have CZ := Lib.hid (C6.out.trans (hW.1.bel.mono C6.out.size))
        clear hR hD hW
        have hc := truth_any (fromS s day) HFG.out (.slice af s.stores.length cf) (y 81) yv (List.replicate n (i : Int)) ys (by rw [List.length_replicate, HFL.out]; exact hnl) (replicate_in _ i n (by rw [HFN.out]; exact him)) HYS.out wz (HFV6.out.next HW.out.1.bel) h81 ((HY.out.below CZ.out).mono CZ.out.size)
        rw [List.length_replicate] at hc
        clear h81
        go_wp2_with fail
        refine hc.mono ?_
        rintro e w' ⟨tv, rfl, hti, htc, hbw⟩
        go_wp2_with fail
        have hq := HW.out.1.call (d10' := D 10) (fun h => h) hbw
        exact HRR.out tv w' ⟨⟨hq.bel, hq.t77, hq.t81, fun _ _ => ⟨hti, htc⟩, hq.box⟩, HW.out.2⟩
      apply obl_det
      case hrun =>
        intro D y wz hW hD R hR
        have HRR := Lib.hid hR
        have HW := Lib.hid hW
        have H3 : D 3 = true := hD.pre _ 3 rfl (by kernel_rfl)
        have H9 : D 9 = true := hD.pre _ 9 rfl (by kernel_rfl)
        have H10 : D 10 = false := hD.not
        have h77 := hW.1.t77 H10 H3
        have h83 := hW.1.t83 H10 H9
        have CZ := Lib.hid (C6.out.trans (hW.1.bel.mono C6.out.size))
        clear hR hD hW
        have hin := truthL_in (s := fromS s day) (way := List.replicate n (i : Int)) (ys := ys) HFG.out (by rw [List.length_replicate, HFL.out]; exact hnl) (replicate_in _ i n (by rw [HFN.out]; exact him))
        have htl : (truthL (fromS s day) (List.replicate n (i : Int)) ys n).length = n := truthL_len _ _ _ _
        rw [List.length_replicate] at hin
        have hc := fate_any (fromS s day) (.slice af s.stores.length cf) (y 77) (y 83) (List.replicate n (i : Int)) (truthL (fromS s day) (List.replicate n (i : Int)) ys n) wz (HFV6.out.next HW.out.1.bel) h77 h83.1 (by rw [htl]; exact h83.2)
        rw [fate_sound hsf.1 (by rw [htl, List.length_replicate]) hin hsf.2.1 hsf.2.2] at hc
        clear h77 h83 hin htl
        go_wp2_with fail
        refine hc.mono ?_
        rintro e w' ⟨rfl, hbw⟩
        go_wp2_with fail
        exact HRR.out w' ⟨HW.out.1.call (fun h => by simp at h) hbw, fun _ => rfl, fun _ => rfl⟩
      case hnp => rfl
      case hv => first | exact ⟨_, fun _ => rfl⟩ | exact ⟨undef, fun _ => rfl⟩
      apply obl_det
      case hrun =>
        intro D y wz hW hD R hR
        have HRR := Lib.hid hR
        have HW := Lib.hid hW
        have H10 : D 10 = true := hD.pre _ 10 rfl (by kernel_rfl)
        clear hR hD hW
        go_wp2
        exact HRR.out _ ⟨HW.out.1, fun _ => H10, HW.out.2.2⟩
      case hnp => rfl
      case hv => first | exact ⟨_, fun _ => rfl⟩ | exact ⟨undef, fun _ => rfl⟩
      apply obl_det
      case hrun =>
        intro D y wz hW hD R hR
        have HRR := Lib.hid hR
        have HW := Lib.hid hW
        have H10 : D 10 = true := hW.2.1 (hD.pre _ 11 rfl (by kernel_rfl))
        clear hR hD hW
        go_wp2
        exact HRR.out _ ⟨HW.out.1, HW.out.2.1, fun _ => H10⟩
      case hnp => rfl
      case hv => first | exact ⟨_, fun _ => rfl⟩ | exact ⟨undef, fun _ => rfl⟩
      apply obl_det
      case hrun =>
        intro D y wz hW hD R hR
        have HRR := Lib.hid hR
        have HW := Lib.hid hW
        clear hR hD hW
        go_wp2
        exact HRR.out _ HW.out
      case hnp => rfl
      case hv => first | exact ⟨_, fun _ => rfl⟩ | exact ⟨undef, fun _ => rfl⟩
      apply obl_priv 14
      case hd => rfl
      case hp => rfl
      case hrun =>
        intro D y wz hW hD R hR
        have HRR := Lib.hid hR
        have H14 : D 14 = false := hD.not
        have H15 : D 15 = false := hD.post _ 15 rfl (by kernel_rfl)
        have HW := Lib.hid hW
        clear hR hD hW
        go_wp2
        refine HRR.out _ _ ?_
        have hq := HW.out.1.call (d10' := D 10) (fun h => h) ((Below.refl wz.heap.size wz).alloc (Nat.le_refl _) (.cells #[.int .i64 0, .int .i64 0] 23))
        exact ⟨⟨hq.bel, hq.t77, hq.t81, hq.t83, fun _ => ⟨wz.heap.size, rfl, HW.out.1.bel.size, by
          rw [show ((15 : Nat) == 14 || D 15) = false by rw [H15]; rfl]
          exact heap_alloc_new _ _⟩⟩, HW.out.2⟩
      apply obl_det
      case hrun =>
        intro D y wz hW hD R hR
        have HRR := Lib.hid hR
        have HW := Lib.hid hW
        have H14 : D 14 = true := hD.pre _ 14 rfl (by kernel_rfl)
        have H10 : D 10 = true := hW.2.2 (hD.pre _ 12 rfl (by kernel_rfl))
        have H15 : D 15 = false := hD.not
        obtain ⟨b, hy14, hb, hrow⟩ := hW.1.box H14
        rw [H15] at hrow
        have hrow' : wz.heap[b]? = some (.cells #[.int .i64 0, .int .i64 0] 23) := hrow
        clear hR hD hW hrow
        refine wpList_store_row rfl 23 _ _ rfl b #[.int .i64 (-1), .int .i64 (-1)] hy14 rfl 23 #[.int .i64 0, .int .i64 0] hrow' info23 rfl (by simp [Value.oneCell']) ?_
        have hbb := HW.out.1.bel
        have hnew : (wz.setRow b #[.int .i64 (-1), .int .i64 (-1)]).heap[b]? = some (.cells #[.int .i64 (-1), .int .i64 (-1)] 23) := setRow_heap _ _ _ _ _ _ hrow'
        have HQ : Hid (KeW w6 n (List.replicate n (i : Int)) (truthL (fromS s day) (List.replicate n (i : Int)) ys n) (D 3) (D 7) (D 9) (D 10) (D 14) true (y 77) (y 81) (y 83) (y 14) (wz.setRow b #[.int .i64 (-1), .int .i64 (-1)])) := ⟨below_setRow hbb hb _, (fun h => by rw [H10] at h; cases h), (fun h => by rw [H10] at h; cases h), (fun h => by rw [H10] at h; cases h), fun _ => ⟨b, hy14, hb, hnew⟩⟩
        clear hbb hnew hy14 hrow' hb
        go_wp2
        exact HRR.out _ ⟨HQ.out, HW.out.2⟩
      case hnp => rfl
      case hv => first | exact ⟨_, fun _ => rfl⟩ | exact ⟨undef, fun _ => rfl⟩
      apply obl_det
      case hrun =>
        intro D y wz hW hD R hR
        have HRR := Lib.hid hR
        have HW := Lib.hid hW
        clear hR hD hW
        go_wp2
        exact HRR.out _ HW.out
      case hnp => rfl
      case hv => first | exact ⟨_, fun _ => rfl⟩ | exact ⟨undef, fun _ => rfl⟩
      apply obl_nil
      intro D y w7 hall hW
      have H14 := hall 14 (by decide)
      have H15 := hall 15 (by decide)
      obtain ⟨b, hy14, hb, hrow⟩ := hW.1.box H14
      rw [H15] at hrow
      have CB := Lib.hid hW.1.bel
      have G7 : Hid (w7.heap[b]? = some (.cells #[.int .i64 (-1), .int .i64 (-1)] 23)) := hrow
      clear hW hall
      rw [hy14]
      have C7 := Lib.hid (C6.out.trans (CB.out.mono C6.out.size))
      have R7 := Lib.hid (block_keep R6.out CB.out)
      have F7 := Lib.hid (block_keep F6.out CB.out)
      have HFV7 := Lib.hid (HFV6.out.next CB.out)
      clear hy14 hb hrow CB HFV6 R6 C6 F6 fs6
      have fs7 := fun i => cell_of_row w7 _ i _ _ _ F7.out
      have gs7 := fun i => cell_of_row w7 _ i _ _ _ G7.out
      simp only [Exit.then]
      go_upto_region 13 with fail
      have hrd := refDays_any (fromS s day) (.slice af s.stores.length cf) w7 HFV7.out (by rw [HFN.out]; omega)
      rw [HFL.out, hcast] at hrd
      go_wp2_with fail
      refine hrd.mono ?_
      rintro e' w8 ⟨rfl, hbw⟩
      have C8 := Lib.hid (C7.out.trans (hbw.mono C7.out.size))
      have R8 := Lib.hid (block_keep R7.out hbw)
      have F8 := Lib.hid (block_keep F7.out hbw)
      have HFV8 := Lib.hid (HFV7.out.next hbw)
      clear hbw hrd C7 R7 F7 HFV7 fs7
      by_cases hnn : n = s.len - day
      · have hq5 : ((n : Int) == (s.len : Int) - (day : Int)) = true := by
          rw [beq_iff_eq]; omega
        clear hnn
        go_wp2_with fail
        refine (awake_any _).mono ?_
        rintro e' w9 ⟨rfl, hbw⟩
        have C9 := Lib.hid (C8.out.trans (hbw.mono C8.out.size))
        clear hbw
        go_wp2_with fail
        go_ret
        exact ⟨rfl, C9.out⟩
      · have hq5 : ((n : Int) == (s.len : Int) - (day : Int)) = false := by
          rw [beq_eq_false_iff_ne]; omega
        obtain ⟨h, j, hrk, hhj⟩ := HNOT.out (by omega)
        clear hnn
        go_upto_region 15 with fail
        refine wp_region_inv1 (by kernel_rfl) (by kernel_rfl) [104] (fun D y w' => Below w8.heap.size w8 w' ∧ (D 4 = true → IntsIn .i64 w'.heap.size w' (y 104) (List.replicate (n + 1) (i : Int)))) ?_ ?Fq7 ?hFq7 ?_
        · exact ⟨(Below.refl _ _).drew, fun h => (by cases h)⟩
        case hFq7 =>
          intro y
          simp only [fill, List.foldl, Act.put, List.setIfInBounds_toArray, List.set]
          exact rfl
        apply obl_det
        case hrun =>
          intro D y wz hW hD R hR
          have HRR := Lib.hid hR
          have HW := Lib.hid hW
          have cz := fun i => cell_of_row wz _ i _ _ _ (block_keep F8.out HW.out.1)
          clear hR hD hW
          go_wp2
          exact HRR.out _ HW.out
        case hnp => rfl
        case hv => first | exact ⟨_, fun _ => rfl⟩ | exact ⟨undef, fun _ => rfl⟩
        apply obl_det
        case hrun =>
          intro D y wz hW hD R hR
          have HRR := Lib.hid hR
          have HW := Lib.hid hW
          clear hR hD hW
          go_wp2
          exact HRR.out _ HW.out
        case hnp => rfl
        case hv => first | exact ⟨_, fun _ => rfl⟩ | exact ⟨undef, fun _ => rfl⟩
        apply obl_det
        case hrun =>
          intro D y wz hW hD R hR
          have HRR := Lib.hid hR
          have HW := Lib.hid hW
          clear hR hD hW
          go_wp2
          exact HRR.out _ HW.out
        case hnp => rfl
        case hv => first | exact ⟨_, fun _ => rfl⟩ | exact ⟨undef, fun _ => rfl⟩
        apply obl_det
        case hrun =>
          intro D y wz hW hD R hR
          have HRR := Lib.hid hR
          have HW := Lib.hid hW
          clear hR hD hW
          go_wp2
          exact HRR.out _ HW.out
        case hnp => rfl
        case hv => first | exact ⟨_, fun _ => rfl⟩ | exact ⟨undef, fun _ => rfl⟩
        apply obl_priv 104
        case hd => rfl
        case hp => rfl
        case hrun =>
          intro D y wz hW hD R hR
          have HRR := Lib.hid hR
          have HW := Lib.hid hW
          clear hR hD hW
          have hc := same_any (i : Int) (n + 1) (by omega) wz
          rw [Int.natCast_add, Int.natCast_one] at hc
          go_wp2_with fail
          refine hc.mono ?_
          rintro e w' ⟨tv, rfl, hti, htc, hbw⟩
          go_wp2_with fail
          exact HRR.out tv w' ⟨HW.out.1.trans (hbw.mono HW.out.1.size), fun _ => hti⟩
        apply obl_det
        case hrun =>
          intro D y wz hW hD R hR
          have HRR := Lib.hid hR
          have HW := Lib.hid hW
          have H4 : D 4 = true := hD.pre _ 4 rfl (by kernel_rfl)
          have h104 := hW.2 H4
          clear hR hD hW
          have hc := risks_any (fromS s day) (.slice af s.stores.length cf) (y 104) (List.replicate (n + 1) (i : Int)) wz (HFV8.out.next HW.out.1) h104
          rw [hrk] at hc
          clear h104
          go_wp2_with fail
          refine hc.mono ?_
          rintro e w' ⟨rfl, hbw⟩
          go_wp2_with fail
          exact HRR.out w' ⟨HW.out.1.trans (hbw.mono HW.out.1.size), fun h => (HW.out.2 h).next hbw⟩
        case hnp => rfl
        case hv => first | exact ⟨_, fun _ => rfl⟩ | exact ⟨undef, fun _ => rfl⟩
        apply obl_det
        case hrun =>
          intro D y wz hW hD R hR
          have HRR := Lib.hid hR
          have HW := Lib.hid hW
          clear hR hD hW
          go_wp2
          exact HRR.out _ HW.out
        case hnp => rfl
        case hv => first | exact ⟨_, fun _ => rfl⟩ | exact ⟨undef, fun _ => rfl⟩
        apply obl_det
        case hrun =>
          intro D y wz hW hD R hR
          have HRR := Lib.hid hR
          have HW := Lib.hid hW
          clear hR hD hW
          go_wp2
          exact HRR.out _ HW.out
        case hnp => rfl
        case hv => first | exact ⟨_, fun _ => rfl⟩ | exact ⟨undef, fun _ => rfl⟩
        apply obl_det
        case hrun =>
          intro D y wz hW hD R hR
          have HRR := Lib.hid hR
          have HW := Lib.hid hW
          clear hR hD hW
          go_wp2
          exact HRR.out _ HW.out
        case hnp => rfl
        case hv => first | exact ⟨_, fun _ => rfl⟩ | exact ⟨undef, fun _ => rfl⟩
        apply obl_det
        case hrun =>
          intro D y wz hW hD R hR
          have HRR := Lib.hid hR
          have HW := Lib.hid hW
          clear hR hD hW
          go_wp2
          exact HRR.out _ HW.out
        case hnp => rfl
        case hv => first | exact ⟨_, fun _ => rfl⟩ | exact ⟨undef, fun _ => rfl⟩
        apply obl_det
        case hrun =>
          intro D y wz hW hD R hR
          have HRR := Lib.hid hR
          have HW := Lib.hid hW
          clear hR hD hW
          go_wp2
          exact HRR.out _ HW.out
        case hnp => rfl
        case hv => first | exact ⟨_, fun _ => rfl⟩ | exact ⟨undef, fun _ => rfl⟩
        apply obl_det
        case hrun =>
          intro D y wz hW hD R hR
          have HRR := Lib.hid hR
          have HW := Lib.hid hW
          clear hR hD hW
          go_wp2
          exact HRR.out _ HW.out
        case hnp => rfl
        case hv => first | exact ⟨_, fun _ => rfl⟩ | exact ⟨undef, fun _ => rfl⟩
        apply obl_det
        case hrun =>
          intro D y wz hW hD R hR
          have HRR := Lib.hid hR
          have HW := Lib.hid hW
          clear hR hD hW
          go_wp2
          exact HRR.out _ HW.out
        case hnp => rfl
        case hv => first | exact ⟨_, fun _ => rfl⟩ | exact ⟨undef, fun _ => rfl⟩
        apply obl_nil
        intro D y w9 hall hW
        have C9 := Lib.hid (C8.out.trans (hW.1.mono C8.out.size))
        have R9 := Lib.hid (block_keep R8.out hW.1)
        clear hW hall hrk
        have cs9 := fun i => cell_of_row w9 _ i _ _ _ R9.out
        simp only [Exit.then]
        obtain ⟨q, hq6⟩ : ∃ q, decide (s.days ≤ h) = q := ⟨_, rfl⟩
        cases q
        · have hq7 : decide (s.times ≤ j) = true := decide_eq_true (by have := of_decide_eq_false hq6; omega)
          clear hhj
          go_wp2_with fail
          refine (awake_any _).mono ?_
          rintro e' w10 ⟨rfl, hbw⟩
          have C10 := Lib.hid (C9.out.trans (hbw.mono C9.out.size))
          clear hbw
          go_wp2_with fail
          go_ret
          exact ⟨rfl, C10.out⟩
        · clear hhj
          go_wp2_with fail
          refine (awake_any _).mono ?_
          rintro e' w10 ⟨rfl, hbw⟩
          have C10 := Lib.hid (C9.out.trans (hbw.mono C9.out.size))
          clear hbw
          go_wp2_with fail
          go_ret
          exact ⟨rfl, C10.out⟩
    · have hq3 : decide (0 < (n : Int)) = false := decide_eq_false (by omega)
      go_upto_region 13 with fail
      have hrd := refDays_any (fromS s day) (.slice af s.stores.length cf) w6 HFV6.out (by rw [HFN.out]; omega)
      rw [HFL.out, hcast] at hrd
      go_wp2_with fail
      refine hrd.mono ?_
      rintro e' w8 ⟨rfl, hbw⟩
      have C8 := Lib.hid (C6.out.trans (hbw.mono C6.out.size))
      have R8 := Lib.hid (block_keep R6.out hbw)
      have F8 := Lib.hid (block_keep F6.out hbw)
      have HFV8 := Lib.hid (HFV6.out.next hbw)
      clear hbw hrd C6 R6 F6 HFV6 fs6
      by_cases hnn : n = s.len - day
      · have hq5 : ((n : Int) == (s.len : Int) - (day : Int)) = true := by
          rw [beq_iff_eq]; omega
        clear hnn
        go_wp2_with fail
        refine (awake_any _).mono ?_
        rintro e' w9 ⟨rfl, hbw⟩
        have C9 := Lib.hid (C8.out.trans (hbw.mono C8.out.size))
        clear hbw
        go_wp2_with fail
        go_ret
        exact ⟨rfl, C9.out⟩
      · have hq5 : ((n : Int) == (s.len : Int) - (day : Int)) = false := by
          rw [beq_eq_false_iff_ne]; omega
        obtain ⟨h, j, hrk, hhj⟩ := HNOT.out (by omega)
        clear hnn
        go_upto_region 15 with fail
        refine wp_region_inv1 (by kernel_rfl) (by kernel_rfl) [104] (fun D y w' => Below w8.heap.size w8 w' ∧ (D 4 = true → IntsIn .i64 w'.heap.size w' (y 104) (List.replicate (n + 1) (i : Int)))) ?_ ?Fq6 ?hFq6 ?_
        · exact ⟨(Below.refl _ _).drew, fun h => (by cases h)⟩
        case hFq6 =>
          intro y
          simp only [fill, List.foldl, Act.put, List.setIfInBounds_toArray, List.set]
          exact rfl
        apply obl_det
        case hrun =>
          intro D y wz hW hD R hR
          have HRR := Lib.hid hR
          have HW := Lib.hid hW
          have cz := fun i => cell_of_row wz _ i _ _ _ (block_keep F8.out HW.out.1)
          clear hR hD hW
          go_wp2
          exact HRR.out _ HW.out
        case hnp => rfl
        case hv => first | exact ⟨_, fun _ => rfl⟩ | exact ⟨undef, fun _ => rfl⟩
        apply obl_det
        case hrun =>
          intro D y wz hW hD R hR
          have HRR := Lib.hid hR
          have HW := Lib.hid hW
          clear hR hD hW
          go_wp2
          exact HRR.out _ HW.out
        case hnp => rfl
        case hv => first | exact ⟨_, fun _ => rfl⟩ | exact ⟨undef, fun _ => rfl⟩
        apply obl_det
        case hrun =>
          intro D y wz hW hD R hR
          have HRR := Lib.hid hR
          have HW := Lib.hid hW
          clear hR hD hW
          go_wp2
          exact HRR.out _ HW.out
        case hnp => rfl
        case hv => first | exact ⟨_, fun _ => rfl⟩ | exact ⟨undef, fun _ => rfl⟩
        apply obl_det
        case hrun =>
          intro D y wz hW hD R hR
          have HRR := Lib.hid hR
          have HW := Lib.hid hW
          clear hR hD hW
          go_wp2
          exact HRR.out _ HW.out
        case hnp => rfl
        case hv => first | exact ⟨_, fun _ => rfl⟩ | exact ⟨undef, fun _ => rfl⟩
        apply obl_priv 104
        case hd => rfl
        case hp => rfl
        case hrun =>
          intro D y wz hW hD R hR
          have HRR := Lib.hid hR
          have HW := Lib.hid hW
          clear hR hD hW
          have hc := same_any (i : Int) (n + 1) (by omega) wz
          rw [Int.natCast_add, Int.natCast_one] at hc
          go_wp2_with fail
          refine hc.mono ?_
          rintro e w' ⟨tv, rfl, hti, htc, hbw⟩
          go_wp2_with fail
          exact HRR.out tv w' ⟨HW.out.1.trans (hbw.mono HW.out.1.size), fun _ => hti⟩
        apply obl_det
        case hrun =>
          intro D y wz hW hD R hR
          have HRR := Lib.hid hR
          have HW := Lib.hid hW
          have H4 : D 4 = true := hD.pre _ 4 rfl (by kernel_rfl)
          have h104 := hW.2 H4
          clear hR hD hW
          have hc := risks_any (fromS s day) (.slice af s.stores.length cf) (y 104) (List.replicate (n + 1) (i : Int)) wz (HFV8.out.next HW.out.1) h104
          rw [hrk] at hc
          clear h104
          go_wp2_with fail
          refine hc.mono ?_
          rintro e w' ⟨rfl, hbw⟩
          go_wp2_with fail
          exact HRR.out w' ⟨HW.out.1.trans (hbw.mono HW.out.1.size), fun h => (HW.out.2 h).next hbw⟩
        case hnp => rfl
        case hv => first | exact ⟨_, fun _ => rfl⟩ | exact ⟨undef, fun _ => rfl⟩
        apply obl_det
        case hrun =>
          intro D y wz hW hD R hR
          have HRR := Lib.hid hR
          have HW := Lib.hid hW
          clear hR hD hW
          go_wp2
          exact HRR.out _ HW.out
        case hnp => rfl
        case hv => first | exact ⟨_, fun _ => rfl⟩ | exact ⟨undef, fun _ => rfl⟩
        apply obl_det
        case hrun =>
          intro D y wz hW hD R hR
          have HRR := Lib.hid hR
          have HW := Lib.hid hW
          clear hR hD hW
          go_wp2
          exact HRR.out _ HW.out
        case hnp => rfl
        case hv => first | exact ⟨_, fun _ => rfl⟩ | exact ⟨undef, fun _ => rfl⟩
        apply obl_det
        case hrun =>
          intro D y wz hW hD R hR
          have HRR := Lib.hid hR
          have HW := Lib.hid hW
          clear hR hD hW
          go_wp2
          exact HRR.out _ HW.out
        case hnp => rfl
        case hv => first | exact ⟨_, fun _ => rfl⟩ | exact ⟨undef, fun _ => rfl⟩
        apply obl_det
        case hrun =>
          intro D y wz hW hD R hR
          have HRR := Lib.hid hR
          have HW := Lib.hid hW
          clear hR hD hW
          go_wp2
          exact HRR.out _ HW.out
        case hnp => rfl
        case hv => first | exact ⟨_, fun _ => rfl⟩ | exact ⟨undef, fun _ => rfl⟩
        apply obl_det
        case hrun =>
          intro D y wz hW hD R hR
          have HRR := Lib.hid hR
          have HW := Lib.hid hW
          clear hR hD hW
          go_wp2
          exact HRR.out _ HW.out
        case hnp => rfl
        case hv => first | exact ⟨_, fun _ => rfl⟩ | exact ⟨undef, fun _ => rfl⟩
        apply obl_det
        case hrun =>
          intro D y wz hW hD R hR
          have HRR := Lib.hid hR
          have HW := Lib.hid hW
          clear hR hD hW
          go_wp2
          exact HRR.out _ HW.out
        case hnp => rfl
        case hv => first | exact ⟨_, fun _ => rfl⟩ | exact ⟨undef, fun _ => rfl⟩
        apply obl_det
        case hrun =>
          intro D y wz hW hD R hR
          have HRR := Lib.hid hR
          have HW := Lib.hid hW
          clear hR hD hW
          go_wp2
          exact HRR.out _ HW.out
        case hnp => rfl
        case hv => first | exact ⟨_, fun _ => rfl⟩ | exact ⟨undef, fun _ => rfl⟩
        apply obl_nil
        intro D y w9 hall hW
        have C9 := Lib.hid (C8.out.trans (hW.1.mono C8.out.size))
        have R9 := Lib.hid (block_keep R8.out hW.1)
        clear hW hall hrk
        have cs9 := fun i => cell_of_row w9 _ i _ _ _ R9.out
        simp only [Exit.then]
        obtain ⟨q, hq6⟩ : ∃ q, decide (s.days ≤ h) = q := ⟨_, rfl⟩
        cases q
        · have hq7 : decide (s.times ≤ j) = true := decide_eq_true (by have := of_decide_eq_false hq6; omega)
          clear hhj
          go_wp2_with fail
          refine (awake_any _).mono ?_
          rintro e' w10 ⟨rfl, hbw⟩
          have C10 := Lib.hid (C9.out.trans (hbw.mono C9.out.size))
          clear hbw
          go_wp2_with fail
          go_ret
          exact ⟨rfl, C10.out⟩
        · clear hhj
          go_wp2_with fail
          refine (awake_any _).mono ?_
          rintro e' w10 ⟨rfl, hbw⟩
          have C10 := Lib.hid (C9.out.trans (hbw.mono C9.out.size))
          clear hbw
          go_wp2_with fail
          go_ret
          exact ⟨rfl, C10.out⟩
end Go.Proofs.Ytddapabmfecidaa
