/- Made's closures. -/
import Derived.Test.YtaigbhhmmdfdcaaW22
namespace Go.Proofs.Ytaigbhhmmdfdcaa
open Go.RowKit
theorem short69 (y : List Int) (u : Value) (b nt : Nat) (w : World) (hu : IntsIn .i64 w.heap.size w u y) (hc : w.heap[b]? = some (.cells #[.int .i64 nt] 3)) :
    Calls Try.prog 69 #[u, .pointer (some ⟨b, 0, none⟩)] w fun e w' => e = .returned (.bool (decide (y.length ≠ nt))) ∧ Below w.heap.size w w' := by
  obtain ⟨a, c, rfl, -⟩ := ints_shape hu
  have c0 := cell_of_row _ _ 0 _ _ _ hc
  clear hu hc
  have HB : Hid (((y.length : Int) != (nt : Int)) = decide (y.length ≠ nt)) := by
    unfold Hid
    by_cases h : y.length = nt
    · simp [h]
    · have : ¬ (y.length : Int) = nt := by omega
      simp [h, this]
  generalize y.length = n at *
  go_enter Try.func69, Try.ntmps69
  go_wp2_with fail
  go_ret
  exact ⟨ret_bool HB.out, Below.refl _ _⟩
/-- What Made's inner function works on: a row of ints, and a bool. -/
structure PS (B : Nat) (wX : World) (mb gw : Nat) (m : List Int) (b : Bool) (w : World) : Prop where
  bel : Below B wX w
  le : B ≤ w.heap.size
  c1 : w.heap[mb]? = some (.cells (ints m) 3)
  c2 : w.heap[gw]? = some (.cells #[.bool b] 4)
  ne : mb ≠ gw
  g1 : B ≤ mb
  g2 : B ≤ gw
section
variable {B : Nat} {wX w w' : World} {mb gw : Nat} {m m' : List Int} {b b' : Bool}
theorem PS.call (h : PS B wX mb gw m b w) (hb : Below w.heap.size w w') : PS B wX mb gw m b w' :=
  ⟨h.bel.trans (hb.mono h.le), Nat.le_trans h.le hb.size, block_keep h.c1 hb, block_keep h.c2 hb, h.ne, h.g1, h.g2⟩
theorem PS.drew (h : PS B wX mb gw m b w) (n : Nat) : PS B wX mb gw m b (w.drewN n) := h.call (below_drewN (Below.refl _ _) n)
theorem PS.setM (h : PS B wX mb gw m b w) (hb : But mb w w') (hm : w'.heap[mb]? = some (.cells (ints m') 3)) : PS B wX mb gw m' b w' :=
  ⟨h.bel.trans (hb.below h.g1 h.le), Nat.le_trans h.le hb.size, hm, (hb.block _ (block_lt h.c2) (Ne.symm h.ne)).trans h.c2, h.ne, h.g1, h.g2⟩
theorem PS.setB (h : PS B wX mb gw m b w) (hb : But gw w w') (hm : w'.heap[gw]? = some (.cells #[.bool b'] 4)) : PS B wX mb gw m b' w' :=
  ⟨h.bel.trans (hb.below h.g2 h.le), Nat.le_trans h.le hb.size, (hb.block _ (block_lt h.c1) h.ne).trans h.c1, hm, h.ne, h.g1, h.g2⟩
end
/-- The numbers after k of a list. -/
def addTo (times : Int) (ns m : List Int) : Nat → List Int
  | 0 => m
  | k + 1 => (addTo times ns m k).set k (wrap64 ((addTo times ns m k).getD k 0 + wrap64 (times * ns.getD k 0)))
theorem addTo_length (times : Int) (ns m : List Int) : ∀ k, (addTo times ns m k).length = m.length
  | 0 => rfl
  | k + 1 => by simp [addTo, addTo_length times ns m k]
def badTo (fs : Nat → Int × Int) (ns : List Int) (k : Nat) : Bool := (List.range k).any fun i => outOne (fs i).1 (fs i).2 (ns.getD i 0)
theorem badTo_succ (fs : Nat → Int × Int) (ns : List Int) (k : Nat) : badTo fs ns (k + 1) = (badTo fs ns k || outOne (fs k).1 (fs k).2 (ns.getD k 0)) := by
  unfold badTo
  rw [List.range_succ, List.any_append]
  simp
theorem info4 : (Try.prog.info? 4).map (·.size) = some 1 := by kernel_rfl
/-- The bool of one number, while it is looked at. -/
structure OnW (B : Nat) (wX : World) (mb gw : Nat) (m : List Int) (b b' : Bool) (n : Int) (d13 d14 d16 : Bool) (yb : Value) (w : World) : Prop where
  ps : PS B wX mb gw m (if d16 then b' else b) w
  new : d13 = true → d14 = false → ∃ g, yb = .slice (some ⟨g, 0, none⟩) 1 1 ∧ w.heap[g]? = some (.cells #[.int .i64 n] 3)
set_option maxRecDepth 100000 in
set_option maxHeartbeats 16000000 in
theorem pour71 (B : Nat) (wX : World) (mb gw gm : Nat) (m : List Int) (b : Bool) (times : Int) (ns : List Int) (fs : Nat → Int × Int) (vn : Value) (fb fo fc nt : Nat) (w : World) (hps : PS B wX mb gw m b w) (hm : m.length = nt) (hn : ns.length = nt) (hnt : nt ≤ 5) (hfc : nt ≤ fc)
    (hgm : gm < B) (hgc : wX.cell? ⟨gm, 0, none⟩ = some (.slice (some ⟨mb, 0, none⟩) nt nt)) (hvn : IntsIn .i64 B wX vn ns) (hfb : fb < B) (hf : ∀ i, i < nt → wX.cell? ⟨fb, fo + i * 2, none⟩ = some (.int .i64 (fs i).1) ∧ wX.cell? ⟨fb, fo + i * 2 + 1, none⟩ = some (.int .i64 (fs i).2)) :
    Calls Try.prog 71 #[.int .i64 times, vn, .slice (some ⟨fb, fo, none⟩) nt fc, .pointer (some ⟨gm, 0, none⟩), .pointer (some ⟨gw, 0, none⟩)] w
      fun e w' => (∃ v, e = .returned v) ∧ PS B wX mb gw (addTo times ns m nt) (b || badTo fs ns nt) w' := by
  have HPS := Lib.hid hps
  have HVN := Lib.hid hvn
  have HF := Lib.hid hf
  have HGC := Lib.hid hgc
  obtain ⟨na, nc, rfl, -⟩ := ints_shape hvn
  have HN := Lib.hid hn
  have HLEN := fun k => Lib.hid ((addTo_length times ns m k).trans hm)
  rw [hn] at HVN ⊢
  clear hps hvn hf hgc hn hm
  go_enter Try.func71, Try.ntmps71
  go_wp2_with fail
  go_loopw [12] (fun iv wr => ∃ k : Nat, iv = .int .i64 k ∧ k ≤ nt ∧ PS B wX mb gw (addTo times ns m k) (b || badTo fs ns k) wr) (fun iv _ => nt - (intOf iv).toNat)
  case atStart => exact ⟨0, rfl, by omega, by simpa [addTo, badTo] using HPS.out⟩
  case round =>
    obtain ⟨k, rfl, hk, hP⟩ := hrel
    have HP := Lib.hid hP
    clear hP
    by_cases hlt : k < nt
    · obtain ⟨b1, o1, rfl, hb1, x1⟩ := ints_at HVN.out (show k < ns.length by rw [HN.out]; exact hlt)
      have x1 := (HP.out.bel.cell (p := ⟨b1, _, none⟩) hb1).trans x1
      have x2 := (HP.out.bel.cell (p := ⟨gm, 0, none⟩) hgm).trans HGC.out
      have HNX : Hid (addTo times ns m (k + 1) = (addTo times ns m k).set k (wrap64 ((addTo times ns m k).getD k 0 + wrap64 (times * ns.getD k 0)))) := rfl
      have HBX : Hid ((b || badTo fs ns (k + 1)) = ((b || badTo fs ns k) || outOne (fs k).1 (fs k).2 (ns.getD k 0))) := by unfold Hid; rw [badTo_succ, Bool.or_assoc]
      have hl := HLEN k
      have x3 : wr.cell? ⟨mb, k, none⟩ = some (.int .i64 ((addTo times ns m k).getD k 0)) := (cell_of_row _ _ _ _ _ _ HP.out.c1).trans (ints_get _ _ (by rw [(HLEN k).out]; exact hlt))
      have hset := Lib.hid (ints_set (addTo times ns m k) k)
      have HSZ : Hid (k < (ints (addTo times ns m k)).size) := by unfold Hid; rw [ints_size, (HLEN k).out]; exact hlt
      generalize addTo times ns m k = M at *
      generalize ns.getD k 0 = n at *
      generalize M.getD k 0 = z at *
      clear hl
      go_wp2_with (refine wpList_cell_but rfl 3 _ _ rfl mb k _ 3 HP.out.c1 rfl (.int .i64 (wrap64 (z + wrap64 (times * n)))) rfl HSZ.out rfl info3 ?_; intro w5 hg5 hb5)
      rw [hset.out, ← HNX.out] at hg5
      have HP5 := Lib.hid (HP.out.setM hb5 hg5)
      clear hg5 hb5 x1 x2 x3
      simp only [Act.put]
      have f1 := (HP5.out.bel.cell (p := ⟨fb, _, none⟩) hfb).trans (HF.out k hlt).1
      have f2 := (HP5.out.bel.cell (p := ⟨fb, _, none⟩) hfb).trans (HF.out k hlt).2
      have hfb5 : fb < w5.heap.size := Nat.lt_of_lt_of_le hfb HP5.out.le
      generalize hpk : fs k = p at *
      obtain ⟨lo, hi⟩ := p
      simp only at f1 f2 HBX
      have hbw := cell_of_row _ _ 0 _ _ _ HP5.out.c2
      have hlt2 : (k : Int) < (nt : Int) := by omega
      generalize (b || badTo fs ns k) = bb at *
      have HFK := Lib.hid (HF.out k hlt)
      clear f1 f2 hfb5
      rw [hpk] at HFK
      cases bb
      case true =>
        refine wp_region_inv0 (by kernel_rfl) (by kernel_rfl) (fun _ w' => PS B wX mb gw (addTo times ns m (k + 1)) true w') (HP5.out.call (Below.refl _ _).drew) ?_
        apply obl_det
        case hrun =>
          intro D y wz hW hD R hR
          have HRR := Lib.hid hR
          clear hR
          have c0 := cell_of_row _ _ 0 _ _ _ hW.c2
          have HW := Lib.hid hW
          clear hW hD
          go_wp2
          exact HRR.out _ HW.out
        case hnp => rfl
        case hv => first | exact ⟨_, fun _ => rfl⟩ | exact ⟨undef, fun _ => rfl⟩
        iterate 15
          (apply obl_det
           case hrun =>
             intro D y wz hW hD R hR
             have HRR := Lib.hid hR
             clear hR
             have HW := Lib.hid hW
             clear hW hD
             go_wp2
             exact HRR.out _ HW.out
           case hnp => rfl
           case hv => first | exact ⟨_, fun _ => rfl⟩ | exact ⟨undef, fun _ => rfl⟩)
        apply obl_det
        case hrun =>
          intro D y wz hW hD R hR
          have HRR := Lib.hid hR
          clear hR
          have HW := Lib.hid hW
          clear hW hD
          refine wpList_cell_but rfl 4 _ _ rfl gw 0 _ 4 HW.out.c2 rfl (.bool true) rfl (by simp) rfl info4 ?_
          intro w6 hg6 hb6
          have HN := Lib.hid (HW.out.setB hb6 hg6)
          clear hg6 hb6
          go_wp2
          exact HRR.out _ HN.out
        case hnp => rfl
        case hv => first | exact ⟨_, fun _ => rfl⟩ | exact ⟨undef, fun _ => rfl⟩
        apply obl_nil
        intro D y w8 hall hW
        have HP7 := Lib.hid hW
        clear hW hall
        clear hbw
        go_wp2_with fail
        refine ⟨⟨k + 1, by push_cast; rfl, by omega, by rw [HBX.out]; simpa using HP7.out⟩, ?_⟩
        simp [intOf]
        omega
      case false =>
        clear hbw
        obtain ⟨r, hr⟩ : ∃ r, outOne lo hi n = r := ⟨_, rfl⟩
        have HR := Lib.hid hr
        clear hr
        refine wp_region_inv1 (by kernel_rfl) (by kernel_rfl) [39] (fun D y w' => OnW B wX mb gw (addTo times ns m (k + 1)) false r n (D 13) (D 14) (D 16) (y 39) w') ⟨HP5.out.call (Below.refl _ _).drew, fun h => (by cases h)⟩ ?FO ?hFO ?_
        case hFO =>
          intro y
          simp only [fill, List.foldl, Act.put, List.setIfInBounds_toArray, List.set]
          exact rfl
        apply obl_det
        case hrun =>
          intro D y wz hW hD R hR
          have HRR := Lib.hid hR
          clear hR
          have h16 : D 16 = false := hD.post _ 16 rfl (by kernel_rfl)
          have c0 := cell_of_row _ _ 0 _ _ _ hW.ps.c2
          rw [h16] at c0
          simp only [Bool.false_eq_true, if_false] at c0
          have HW := Lib.hid hW
          clear hW hD h16
          go_wp2
          exact HRR.out _ HW.out
        case hnp => rfl
        case hv => first | exact ⟨_, fun _ => rfl⟩ | exact ⟨undef, fun _ => rfl⟩
        iterate 12
          (apply obl_det
           case hrun =>
             intro D y wz hW hD R hR
             have HRR := Lib.hid hR
             clear hR
             have HW := Lib.hid hW
             have f1 := (hW.ps.bel.cell (p := ⟨fb, _, none⟩) hfb).trans HFK.out.1
             have f2 := (hW.ps.bel.cell (p := ⟨fb, _, none⟩) hfb).trans HFK.out.2
             have hfb6 : fb < wz.heap.size := Nat.lt_of_lt_of_le hfb hW.ps.le
             clear hW hD
             go_wp2
             exact HRR.out _ HW.out
           case hnp => rfl
           case hv => first | exact ⟨_, fun _ => rfl⟩ | exact ⟨undef, fun _ => rfl⟩)
        apply obl_priv 39
        case hd => rfl
        case hp => rfl
        case hrun =>
          intro D y wz hW hD R hR
          have HRR := Lib.hid hR
          clear hR
          have HW := Lib.hid hW.ps
          clear hW hD
          go_wp2
          refine HRR.out _ _ ?_
          show OnW B wX mb gw (addTo times ns m (k + 1)) false r n true (D 14) (D 16) (.slice (some ⟨wz.heap.size, 0, none⟩) 1 1) _
          exact ⟨HW.out.call ((Below.refl _ _).alloc (Nat.le_refl _) _), fun _ _ => ⟨_, rfl, heap_alloc_new _ _⟩⟩
        apply obl_det
        case hrun =>
          intro D y wz hW hD R hR
          have HRR := Lib.hid hR
          clear hR
          have h13 : D 13 = true := hD.pre _ 13 rfl (by kernel_rfl)
          have h14 : D 14 = false := hD.not
          obtain ⟨g5, e5, hg5⟩ := hW.new h13 h14
          have hc := out_one r lo hi n HR.out g5 wz hg5
          rw [← e5] at hc
          have HC := Lib.hid hc
          clear hc hg5 e5
          have HW := Lib.hid hW
          clear hW hD h13 h14
          go_wp2_with fail
          refine HC.out.mono ?_
          rintro e w' ⟨rfl, hb⟩
          have HW2 := Lib.hid (HW.out.ps.call hb)
          clear hb
          go_wp2_with fail
          exact HRR.out _ ⟨HW2.out, fun _ h => (by cases h)⟩
        case hnp => rfl
        case hv => first | exact ⟨_, fun _ => rfl⟩ | exact ⟨undef, fun _ => rfl⟩
        apply obl_det
        case hrun =>
          intro D y wz hW hD R hR
          have HRR := Lib.hid hR
          clear hR
          have HW := Lib.hid hW
          clear hW hD
          go_wp2
          exact HRR.out _ HW.out
        case hnp => rfl
        case hv => first | exact ⟨_, fun _ => rfl⟩ | exact ⟨undef, fun _ => rfl⟩
        apply obl_det
        case hrun =>
          intro D y wz hW hD R hR
          have HRR := Lib.hid hR
          clear hR
          have h14 : D 14 = true := hD.pre _ 14 rfl (by kernel_rfl)
          have H14 := Lib.hid h14
          have HW := Lib.hid hW
          clear hW hD h14
          refine wpList_cell_but rfl 4 _ _ rfl gw 0 _ 4 HW.out.ps.c2 rfl (.bool r) rfl (by simp) rfl info4 ?_
          intro w6 hg6 hb6
          have HN := Lib.hid (HW.out.ps.setB hb6 hg6)
          clear hg6 hb6
          go_wp2
          exact HRR.out _ ⟨HN.out, fun _ h => (by rw [H14.out] at h; cases h)⟩
        case hnp => rfl
        case hv => first | exact ⟨_, fun _ => rfl⟩ | exact ⟨undef, fun _ => rfl⟩
        apply obl_nil
        intro D y w8 hall hW
        have h16 := hall 16 (by decide)
        have hp := hW.ps
        rw [h16] at hp
        simp only [if_true] at hp
        have HP7 := Lib.hid hp
        clear hp hW hall h16
        go_wp2_with fail
        refine ⟨⟨k + 1, by push_cast; rfl, by omega, by rw [HBX.out, HR.out]; simpa using HP7.out⟩, ?_⟩
        simp [intOf]
        omega
    · obtain rfl : k = nt := by omega
      go_wp2_with fail
      exact bodyPost_end (results_none rfl _ _ _) rfl ⟨⟨_, rfl⟩, HP.out⟩
end Go.Proofs.Ytaigbhhmmdfdcaa
