/- The ranges of all batches, by the reference. -/
import Derived.Test.YteebihcdgpfldaaGreatR1
namespace Go.Proofs.YteebihcdgpfldaaGreat
open Go.RowKit
/-- A cell of two is laid and stored, the rest is read. -/
structure AlW (W1 : World) (d1 d2 : Bool) (new : Array Value) (w : World) : Prop where
 bel : Below W1.heap.size W1 w
 sz : d1 = false → w.heap.size = W1.heap.size
 bs : d1 = true → Bs W1 [(W1.heap.size, .cells (if d2 then new else #[.int .i64 0, .int .i64 0]) 30)] w
/-- As AlW, but calls may stand ahead of the cell. -/
structure PrW (W1 : World) (n1 : Nat) (old new : Array Value) (d1 d2 : Bool) (y : Value) (w : World) : Prop where
 bs : Bs W1 [(n1, .cells old 30)] w
 al : d1 = true → ∃ g, y = .pointer (some ⟨g, 0, none⟩) ∧ n1 < g ∧ w.heap[g]? = some (.cells (if d2 then new else #[.int .i64 0, .int .i64 0]) 30)
theorem PrW.next {W1 w w' : World} {n1 : Nat} {old new : Array Value} {d1 d2 : Bool} {y : Value} (h : PrW W1 n1 old new d1 d2 y w) (hb : Below w.heap.size w w') : PrW W1 n1 old new d1 d2 y w' :=
 ⟨h.bs.call hb, fun e => by
  obtain ⟨g, e1, e2, e3⟩ := h.al e
  exact ⟨g, e1, e2, block_keep e3 hb⟩⟩
theorem midA_at (s : Shop) (l : List Bat) (k i : Nat) {t : Nat} (ht : t < s.things.length) : midA s l k i t = (1000 * ((l.getD k default).added.getD t (0, 0)).1 + dot (lotT s (l.getD k default) t false) i, 1000 * ((l.getD k default).added.getD t (0, 0)).2 + dot (lotT s (l.getD k default) t true) i) := by
 unfold midA; rw [if_pos ht]
theorem midA_zero (s : Shop) (l : List Bat) (k : Nat) {t : Nat} (ht : t < s.things.length) : midA s l k 0 t = (1000 * ((l.getD k default).added.getD t (0, 0)).1, 1000 * ((l.getD k default).added.getD t (0, 0)).2) := by
 rw [midA_at s l k 0 ht]; simp [dot]
theorem midA_succ (s : Shop) (l : List Bat) (k i : Nat) {t : Nat} (ht : t < s.things.length) : midA s l k (i + 1) t = ((midA s l k i t).1 + (l.getD k default).grams.getD i 0 * ((s.lots.getD i default).parts.getD t (0, 0)).1, (midA s l k i t).2 + (l.getD k default).grams.getD i 0 * ((s.lots.getD i default).parts.getD t (0, 0)).2) := by
 rw [midA_at s l k i ht, midA_at s l k (i + 1) ht]
 simp only [dot, lotT, sd, Bool.false_eq_true, if_false, if_true]
 rw [Int.add_assoc, Int.add_assoc]
theorem midB_succ (s : Shop) (l : List Bat) {k i : Nat} (hk : k ≤ l.length) (hi : i < k) {t : Nat} (ht : t < s.things.length) : midB s l k (i + 1) t = ((midB s l k i t).1 + (l.getD k default).back.getD i 0 * (partsV (weightV (l.getD i default)) (micV s l i t)).1, (midB s l k i t).2 + (l.getD k default).back.getD i 0 * (partsV (weightV (l.getD i default)) (micV s l i t)).2) := by
 unfold midB
 rw [if_pos ht, if_pos ht]
 simp only [dot]
 rw [backT_eq s l hk _ t false hi, backT_eq s l hk _ t true hi]
 simp only [sd, parV, Bool.false_eq_true, if_false, if_true]
 rw [Int.add_assoc, Int.add_assoc, Int.add_assoc, Int.add_assoc, Int.add_assoc, Int.add_assoc]
end Go.Proofs.YteebihcdgpfldaaGreat
namespace Go.Proofs.YteebihcdgpfldaaGreat
open Go.RowKit
set_option maxRecDepth 100000 in
set_option maxHeartbeats 40000000 in
/-- Ranges -/
theorem ranges_own (s : Shop) (l : List Bat) (vt vl v : Value) (w : World) (hv : ShopAt w.heap.size w vt vl s) (hl' : BatsIn w.heap.size w v l) (hg : AllGood s l) :
 Calls Tryz.prog 53 #[.agg #[vt, vl], v] w fun e w' => ∃ tv us, e = .returned tv ∧ OwnTable w.heap.size w' tv l.length us (fun i => (rangesV s l).getD i []) ∧ Below w.heap.size w w' := by
 have HS := Lib.hid hv
 have HL := Lib.hid hl'
 have HG := Lib.hid hg
 obtain ⟨ta, tc, rfl, -, -⟩ := sl_shape hv.1
 obtain ⟨la, lc, rfl, -, -⟩ := sl_shape hv.2
 obtain ⟨a, c, rfl, -, -⟩ := sl_shape hl'
 clear hv hl'
 have hn6 := hg.n6
 have hnt5 := hg.sh.nt5
 have hnl6 := hg.sh.nl6
 clear hg
 have C0 : Hid (Bs w [(w.heap.size, .cells #[.slice ta s.things.length tc, .slice la s.lots.length lc] 25)] _) := (Bs.nil w).push _ rfl (.cells #[.slice ta s.things.length tc, .slice la s.lots.length lc] 25)
 go_enter Tryz.func53, Tryz.ntmps53
 go_wp2_with fail
 obtain ⟨W0, hW0⟩ : ∃ W0, w.alloc (.cells #[.slice ta s.things.length tc, .slice la s.lots.length lc] 25) = W0 := ⟨_, rfl⟩
 have HC0 : Hid (Bs w [(w.heap.size, .cells #[.slice ta s.things.length tc, .slice la s.lots.length lc] 25)] W0) := by rw [← hW0]; exact C0.out
 rw [hW0]
 clear C0 hW0
 obtain ⟨B, hB⟩ : ∃ B, W0.heap.size = B := ⟨_, rfl⟩
 have HLT : Hid (w.heap.size < B) := by rw [← hB]; exact HC0.out.lt 0 rfl
 have HB0 : Hid (Below B W0 W0) := Below.refl _ _
 have HBL : Hid (B ≤ W0.heap.size) := Nat.le_of_eq hB.symm
 clear hB
 go_loopw [5, 6] (fun tx kv wr => ∃ (k : Nat) (tv : Value) (us : List Value), tv = tx ∧ kv = .int .i64 k ∧ k ≤ l.length ∧ Below B W0 wr ∧ B ≤ wr.heap.size ∧ OwnTable B wr tv k us (fun i => (rangesV s l).getD i [])) (fun _ kv _ => l.length - (intOf kv).toNat)
 case atStart => exact ⟨0, _, [], rfl, rfl, by omega, HB0.out, HBL.out, ⟨rfl, World.ownsRow_nil _ _ 49 1, fun i hi => by omega⟩⟩
 case round =>
  clear HB0 HBL
  obtain ⟨k, tv, us, rfl, rfl, hk, hBk, hle, hT⟩ := hrel
  obtain ⟨Wk, hWk⟩ : ∃ x, x = wr := ⟨_, rfl⟩
  subst hWk
  have HBk := Lib.hid hBk
  have HT := Lib.hid hT
  have HLE := Lib.hid hle
  clear hBk hT hle
  have HBA : Hid (Below w.heap.size w Wk) := HC0.out.bel.trans (HBk.out.mono (Nat.le_of_lt HLT.out))
  by_cases hkl : k < l.length
  ·have HBO := Lib.hid (bat_ok0 (batchE_zero (HG.out.pre k hkl)).1)
   have HTB : Hid (TableIn Wk.heap.size Wk tv (rowsV s l k)) := OwnTable.table HT.out (by omega) (fun i hi => by rw [row_eq s l (by omega)]; simp; omega) (rowsV s l k) (rowsV_length s l k) (fun i hi => rangesV_get s l hi hk)
   have HROW := Lib.hid (row_eq s l hkl)
   obtain ⟨b, o, he, hbb, vg, vb, va, hd1, hd2, hd3, hat⟩ := HL.out.at' hkl
   cases he
   have HD1 : Hid (w.cell? ⟨b, o + k * 3, none⟩ = some vg) := hd1
   have HD2 : Hid (w.cell? ⟨b, o + k * 3 + 1, none⟩ = some vb) := hd2
   have HD3 : Hid (w.cell? ⟨b, o + k * 3 + 2, none⟩ = some va) := hd3
   have HBB := Lib.hid hbb
   clear hd1 hd2 hd3 hbb
   have HAG := Lib.hid hat.1
   have HAB := Lib.hid hat.2.1
   have HAA := Lib.hid hat.2.2
   clear hat
   obtain ⟨a1, c1, rfl, -⟩ := HAG.out
   obtain ⟨a2, c2, rfl, -⟩ := HAB.out
   obtain ⟨a3, c3, rfl, -⟩ := sl_shape HAA.out
   have HGL : Hid ((l.getD k default).grams.length = s.lots.length) := HBO.out.glen
   have HAL : Hid ((l.getD k default).added.length = s.things.length) := HBO.out.alen
   have hnb := HBO.out.blen
   rw [HGL.out] at HD1 HAG
   rw [HAL.out] at HD3 HAA
   obtain ⟨tva, tvc, rfl⟩ := ownsRow_slice HT.out.row
   have hki : (k : Int) < (l.length : Int) := by omega
   go_wp2_with fail
   obtain ⟨N, hN⟩ : ∃ N, Wk.heap.size = N := ⟨_, rfl⟩
   have HB0 : Hid (Below N Wk Wk) := Below.refl _ _
   have HBN : Hid (B ≤ N) := by rw [← hN]; exact HLE.out
   have HNW : Hid (Wk.heap.size = N) := hN
   clear hN
   go_loopw [7, 8] (fun rx iv wr => ∃ (t : Nat) (rv : Value), rv = rx ∧ iv = .int .i64 t ∧ t ≤ s.things.length ∧ Below N Wk wr ∧ N ≤ wr.heap.size ∧ wr.ownsRow N 30 2 rv t (spCells ((List.range t).map (micV s l k)))) (fun _ iv _ => s.things.length - (intOf iv).toNat)
   case atStart => exact ⟨0, _, rfl, rfl, by omega, HB0.out, Nat.le_of_eq HNW.out.symm, World.ownsRow_nil _ _ 30 2⟩
   case round =>
    clear HB0
    obtain ⟨t, rv, rfl, rfl, ht, hBt, hNt, hR⟩ := hrel
    obtain ⟨W1, hW1⟩ : ∃ x, x = wr := ⟨_, rfl⟩
    subst hW1
    have HBt := Lib.hid hBt
    have HNt := Lib.hid hNt
    have HR := Lib.hid hR
    clear hBt hNt hR
    have HB1 : Hid (Below w.heap.size w W1) := HBA.out.trans (HBt.out.mono (Nat.le_trans (Nat.le_of_lt HLT.out) HBN.out))
    have HBS1 : Hid (Below B W0 W1) := HBk.out.trans (HBt.out.mono HBN.out)
    have hcb0 := (HBS1.out.cell (p := ⟨w.heap.size, 0, none⟩) HLT.out).trans (HC0.out.cell 0 rfl 0)
    by_cases htl : t < s.things.length
    ·have HM0 := Lib.hid (midA_zero s l k htl)
     have HMS := fun i => Lib.hid (midA_succ s l k i htl)
     have HMB := fun i h => Lib.hid (midB_succ s l (i := i) hk h htl)
     have HMZ : Hid (midB s l k 0 t = midA s l k s.lots.length t) := by unfold Hid; rw [midB_zero]
     have HME : Hid (midB s l k (l.getD k default).back.length t = micV s l k t) := by unfold Hid; rw [midB_end s l hkl]
     have HBD := Lib.hid (mic_bound HG.out.sh hn6 k (fun i hi => HG.out.pre i (by omega)) hkl HBO.out)
     obtain ⟨b3, o3, rfl, hb3, hs1, hs2⟩ := HAA.out.at' (i := t) (by rw [HAL.out]; exact htl)
     have HS1 : Hid (w.cell? ⟨b3, o3 + t * 2, none⟩ = some (.int .i64 ((l.getD k default).added.getD t (0, 0)).1)) := hs1
     have HS2 : Hid (w.cell? ⟨b3, o3 + t * 2 + 1, none⟩ = some (.int .i64 ((l.getD k default).added.getD t (0, 0)).2)) := hs2
     have HB3 := Lib.hid hb3
     have hxb := HBO.out.add t
     clear hs1 hs2 hb3
     obtain ⟨x, hx⟩ : ∃ x, (l.getD k default).added.getD t (0, 0) = x := ⟨_, rfl⟩
     rw [hx] at HS1 HS2 HM0 hxb
     clear hx
     obtain ⟨x1, x2⟩ := x
     simp only at HS1 HS2 HM0 hxb
     have hti : (t : Int) < (s.things.length : Int) := by omega
     go_wp2_with fail
     refine wp_region_inv0 (by kernel_rfl) (by kernel_rfl) (fun D w' => AlW W1 (D 21) (D 22) #[.int .i64 (1000 * x1), .int .i64 (1000 * x2)] w') ⟨(Below.refl _ _).drew, fun _ => rfl, fun h => (by cases h)⟩ ?_
     iterate 4
      (apply obl_det
       case hrun =>
        intro D y wz hW hD R hR
        have HRR := Lib.hid hR
        clear hR
        try clear hn6
        try clear hnt5
        try clear hnl6
        have HW := Lib.hid hW
        clear hW hD
        go_wp2_with fail
        exact HRR.out _ HW.out
       case hnp => rfl
       case hv => first | exact ⟨_, fun _ => rfl⟩ | exact ⟨undef, fun _ => rfl⟩)
     apply obl_det
     case hrun =>
      intro D y wz hW hD R hR
      have HRR := Lib.hid hR
      clear hR
      try clear hn6
      try clear hnt5
      try clear hnl6
      have HW := Lib.hid hW
      have HZ := Lib.hid (HB1.out.trans (HW.out.bel.mono HB1.out.size))
      have h1 := (HZ.out.cell (p := ⟨b, o + k * 3 + 2, none⟩) HBB.out).trans HD3.out
      clear hW hD
      go_wp2_with fail
      exact HRR.out _ HW.out
     case hnp => rfl
     case hv => first | exact ⟨_, fun _ => rfl⟩ | exact ⟨undef, fun _ => rfl⟩
     iterate 3
      (apply obl_det
       case hrun =>
        intro D y wz hW hD R hR
        have HRR := Lib.hid hR
        clear hR
        try clear hn6
        try clear hnt5
        try clear hnl6
        have HW := Lib.hid hW
        clear hW hD
        go_wp2_with fail
        exact HRR.out _ HW.out
       case hnp => rfl
       case hv => first | exact ⟨_, fun _ => rfl⟩ | exact ⟨undef, fun _ => rfl⟩)
     apply obl_det
     case hrun =>
      intro D y wz hW hD R hR
      have HRR := Lib.hid hR
      clear hR
      try clear hn6
      try clear hnt5
      try clear hnl6
      have HW := Lib.hid hW
      have HZ := Lib.hid (HB1.out.trans (HW.out.bel.mono HB1.out.size))
      have h2 := (HZ.out.cell (p := ⟨b3, o3 + t * 2, none⟩) HB3.out).trans HS1.out
      clear hW hD
      go_wp2_with fail
      exact HRR.out _ HW.out
     case hnp => rfl
     case hv => first | exact ⟨_, fun _ => rfl⟩ | exact ⟨undef, fun _ => rfl⟩
     iterate 5
      (apply obl_det
       case hrun =>
        intro D y wz hW hD R hR
        have HRR := Lib.hid hR
        clear hR
        try clear hn6
        try clear hnt5
        try clear hnl6
        have HW := Lib.hid hW
        clear hW hD
        go_wp2_with fail
        exact HRR.out _ HW.out
       case hnp => rfl
       case hv => first | exact ⟨_, fun _ => rfl⟩ | exact ⟨undef, fun _ => rfl⟩)
     apply obl_det
     case hrun =>
      intro D y wz hW hD R hR
      have HRR := Lib.hid hR
      clear hR
      try clear hn6
      try clear hnt5
      try clear hnl6
      have HW := Lib.hid hW
      have HZ := Lib.hid (HB1.out.trans (HW.out.bel.mono HB1.out.size))
      have h1 := (HZ.out.cell (p := ⟨b, o + k * 3 + 2, none⟩) HBB.out).trans HD3.out
      clear hW hD
      go_wp2_with fail
      exact HRR.out _ HW.out
     case hnp => rfl
     case hv => first | exact ⟨_, fun _ => rfl⟩ | exact ⟨undef, fun _ => rfl⟩
     iterate 3
      (apply obl_det
       case hrun =>
        intro D y wz hW hD R hR
        have HRR := Lib.hid hR
        clear hR
        try clear hn6
        try clear hnt5
        try clear hnl6
        have HW := Lib.hid hW
        clear hW hD
        go_wp2_with fail
        exact HRR.out _ HW.out
       case hnp => rfl
       case hv => first | exact ⟨_, fun _ => rfl⟩ | exact ⟨undef, fun _ => rfl⟩)
     apply obl_det
     case hrun =>
      intro D y wz hW hD R hR
      have HRR := Lib.hid hR
      clear hR
      try clear hn6
      try clear hnt5
      try clear hnl6
      have HW := Lib.hid hW
      have HZ := Lib.hid (HB1.out.trans (HW.out.bel.mono HB1.out.size))
      have h3 := (HZ.out.cell (p := ⟨b3, o3 + t * 2 + 1, none⟩) HB3.out).trans HS2.out
      clear hW hD
      go_wp2_with fail
      exact HRR.out _ HW.out
     case hnp => rfl
     case hv => first | exact ⟨_, fun _ => rfl⟩ | exact ⟨undef, fun _ => rfl⟩
     iterate 2
      (apply obl_det
       case hrun =>
        intro D y wz hW hD R hR
        have HRR := Lib.hid hR
        clear hR
        try clear hn6
        try clear hnt5
        try clear hnl6
        have HW := Lib.hid hW
        clear hW hD
        go_wp2_with fail
        exact HRR.out _ HW.out
       case hnp => rfl
       case hv => first | exact ⟨_, fun _ => rfl⟩ | exact ⟨undef, fun _ => rfl⟩)
     apply obl_det
     case hrun =>
      intro D y wz hW hD R hR
      have HRR := Lib.hid hR
      clear hR
      have h21 : D 21 = false := hD.not
      have h22 : D 22 = false := hD.post _ 22 rfl (by kernel_rfl)
      rw [h21] at hW
      have HSZ := Lib.hid (hW.sz rfl)
      have HBL := Lib.hid hW.bel
      have H22 := Lib.hid h22
      clear hW hD h21 h22
      go_wp2_with fail
      rw [HSZ.out]
      refine HRR.out _ ⟨HBL.out.alloc HBL.out.size _, fun h => (by cases h), fun _ => ?_⟩
      show Bs W1 [(W1.heap.size, .cells (if D 22 then _ else _) 30)] _
      rw [H22.out]
      exact Bs.push (w := W1) (l := []) ⟨by simp, by simp, by simp, HBL.out⟩ _ HSZ.out (.cells #[.int .i64 0, .int .i64 0] 30)
     case hnp => rfl
     case hv => first | exact ⟨_, fun _ => rfl⟩ | exact ⟨undef, fun _ => rfl⟩
     apply obl_det
     case hrun =>
      intro D y wz hW hD R hR
      have HRR := Lib.hid hR
      clear hR
      have h22 : D 22 = false := hD.not
      have h21 : D 21 = true := hD.pre _ 21 rfl (by kernel_rfl)
      have hb := hW.bs h21
      rw [h22] at hb
      have HBS := Lib.hid hb
      have H21 := Lib.hid h21
      clear hW hD h21 h22 hb
      refine wpList_store_bs rfl 30 _ _ rfl HBS.out 0 _ #[.int .i64 (1000 * x1), .int .i64 (1000 * x2)] _ _ rfl rfl rfl info51 rfl (by simp [Value.oneCell']) ?_
      intro w4 hC4
      simp only [Act.put]
      go_simp
      refine HRR.out _ ⟨hC4.bel, fun h => ?_, fun _ => hC4⟩
      rw [show ((fun k => k == 22 || D k) 21) = D 21 from rfl, H21.out] at h
      cases h
     case hnp => rfl
     case hv => first | exact ⟨_, fun _ => rfl⟩ | exact ⟨undef, fun _ => rfl⟩
     apply obl_nil
     intro D y w8 hall hW
     have hb := hW.bs (hall 21 (by decide))
     rw [hall 22 (by decide)] at hb
     have CA := Lib.hid hb
     clear hb hW hall
     simp only [if_true] at CA
     have e1 : 1000 * x1 = (midA s l k 0 t).1 := by rw [HM0.out]
     have e2 : 1000 * x2 = (midA s l k 0 t).2 := by rw [HM0.out]
     rw [e1, e2] at CA
     clear e1 e2 HM0 HS1 HS2 hxb hcb0
     go_wp2_with fail
     obtain ⟨N1, hN1⟩ : ∃ N1, W1.heap.size = N1 := ⟨_, rfl⟩
     rw [hN1] at CA
     rw [hN1]
     have HN1 := Lib.hid hN1
     clear hN1
     go_loopw [10] (fun iv wr => ∃ i : Nat, iv = .int .i64 i ∧ i ≤ s.lots.length ∧ Bs W1 [(N1, .cells #[.int .i64 (midA s l k i t).1, .int .i64 (midA s l k i t).2] 30)] wr) (fun iv _ => s.lots.length - (intOf iv).toNat)
     case atStart => exact ⟨0, rfl, by omega, CA.out⟩
     case round =>
      clear CA
      obtain ⟨i, rfl, hi, hbs⟩ := hrel
      have CI := Lib.hid hbs
      clear hbs
      have HB2 : Hid (Below w.heap.size w wr) := HB1.out.trans (CI.out.bel.mono HB1.out.size)
      have HBS2 : Hid (Below B W0 wr) := HBS1.out.trans (CI.out.bel.mono (Nat.le_trans HBN.out HNt.out))
      have hcb1 := (HBS2.out.cell (p := ⟨w.heap.size, 1, none⟩) HLT.out).trans (HC0.out.cell 0 rfl 1)
      by_cases hil : i < s.lots.length
      ·obtain ⟨bl, ol, he, hbl, -, -, pv, hp1, hsp⟩ := HS.out.2.at' hil
       cases he
       have hp1 : w.cell? ⟨bl, ol + i * 2 + 1, none⟩ = some pv := hp1
       obtain ⟨pa, pc, rfl, -⟩ := sl_shape hsp
       rw [HG.out.sh.plen i hil] at hp1 hsp
       obtain ⟨bp, op, rfl, hbp, hq1, hq2⟩ := hsp.at' (i := t) (by rw [HG.out.sh.plen i hil]; exact htl)
       have hq1 : w.cell? ⟨bp, op + t * 2, none⟩ = some (.int .i64 ((s.lots.getD i default).parts.getD t (0, 0)).1) := hq1
       have hq2 : w.cell? ⟨bp, op + t * 2 + 1, none⟩ = some (.int .i64 ((s.lots.getD i default).parts.getD t (0, 0)).2) := hq2
       have hpb := HG.out.sh.part i hil t
       have hgb := HBO.out.gram i
       have HMI := Lib.hid (HMS i).out
       have hab := HBD.out.1 i t (by omega)
       have habn := HBD.out.1 (i + 1) t (by omega)
       rw [HMI.out] at habn
       obtain ⟨p, hp⟩ : ∃ p, (s.lots.getD i default).parts.getD t (0, 0) = p := ⟨_, rfl⟩
       rw [hp] at hq1 hq2 hpb HMI habn
       obtain ⟨p1, p2⟩ := p
       simp only at hq1 hq2 hpb HMI habn
       have hr0 := (HB2.out.cell (p := ⟨bl, ol + i * 2 + 1, none⟩) hbl).trans hp1
       have hr1 := (HB2.out.cell (p := ⟨bp, op + t * 2, none⟩) hbp).trans hq1
       have hr2 := (HB2.out.cell (p := ⟨bp, op + t * 2 + 1, none⟩) hbp).trans hq2
       obtain ⟨gb, go, rfl, hgbb, hgc⟩ := (show s.lots.length = 0 ∨ ∃ gb go, a1 = some ⟨gb, go, none⟩ ∧ gb < w.heap.size ∧ w.cell? ⟨gb, go + i, none⟩ = some (.int .i64 ((l.getD k default).grams.getD i 0)) by
        obtain ⟨a', c', e, -, h⟩ := HAG.out
        simp only [Value.slice.injEq] at e
        obtain ⟨rfl, -, -⟩ := e
        rcases h with h | ⟨gb, go, rfl, h1, h2⟩
        ·have := HGL.out; rw [h] at this; exact .inl this.symm
        ·exact .inr ⟨gb, go, rfl, h1, h2 i (by rw [HGL.out]; exact hil)⟩).resolve_left (by omega)
       have HGC := Lib.hid hgc
       have HGBB := Lib.hid hgbb
       obtain ⟨g, hg⟩ : ∃ g, (l.getD k default).grams.getD i 0 = g := ⟨_, rfl⟩
       rw [hg] at hgb HMI habn HGC
       have hm1 := mul_bound hgb (show 0 ≤ p1 ∧ p1 ≤ 1000000 by omega)
       have hm2 := mul_bound hgb (show 0 ≤ p2 ∧ p2 ≤ 1000000 by omega)
       have HWP1 : Hid (wrap64 (g * p1) = g * p1) := by unfold Hid wrap64; omega
       have HWP2 : Hid (wrap64 (g * p2) = g * p2) := by unfold Hid wrap64; omega
       obtain ⟨m1, hm1e⟩ : ∃ m1, g * p1 = m1 := ⟨_, rfl⟩
       obtain ⟨m2, hm2e⟩ : ∃ m2, g * p2 = m2 := ⟨_, rfl⟩
       rw [hm1e] at HWP1
       rw [hm2e] at HWP2
       rw [hm1e, hm2e] at HMI habn
       rw [hm1e] at hm1
       rw [hm2e] at hm2
       obtain ⟨A, hA⟩ : ∃ A, midA s l k i t = A := ⟨_, rfl⟩
       rw [hA] at HMI hab habn CI
       obtain ⟨A1, A2⟩ := A
       simp only at HMI hab habn CI
       have HH1 := Lib.hid hm1e
       have HH2 := Lib.hid hm2e
       clear hp1 hsp hp hgc hgbb hg hA hq1 hq2 hbl hbp hm1e hm2e
       have hii : (i : Int) < (s.lots.length : Int) := by omega
       have C11 := Lib.hid (CI.out.push _ rfl (.cells #[.int .i64 p1, .int .i64 p2] 30))
       obtain ⟨G, hG⟩ : ∃ G, wr.heap.size = G := ⟨_, rfl⟩
       rw [hG] at C11
       go_wp2_with fail
       clear hr0 hr1 hr2 hcb1 hG
       refine wp_region_inv0 (by kernel_rfl) (by kernel_rfl) (fun D w' => Bs W1 [(N1, .cells (if D 29 then #[.int .i64 (A1 + m1), .int .i64 (A2 + m2)] else #[.int .i64 A1, .int .i64 A2]) 30), (G, .cells #[.int .i64 p1, .int .i64 p2] 30)] w') (C11.out.drew) ?_
       apply obl_det
       case hrun =>
        intro D y wz hW hD R hR
        have HRR := Lib.hid hR
        clear hR
        try clear hn6
        try clear hnt5
        try clear hnl6
        try clear hnb
        try clear hk
        try clear ht
        try clear hpb
        try clear hgb
        have h29 : D 29 = false := hD.post _ 29 rfl (by kernel_rfl)
        rw [h29] at hW
        have H29 := Lib.hid h29
        clear h29
        have HW := Lib.hid hW
        clear hW hD
        go_wp2_with fail
        refine HRR.out _ ?_
        show Bs W1 [(N1, .cells (if D 29 then #[.int .i64 (A1 + m1), .int .i64 (A2 + m2)] else #[.int .i64 A1, .int .i64 A2]) 30), (G, .cells #[.int .i64 p1, .int .i64 p2] 30)] _
        rw [H29.out]
        exact HW.out
       case hnp => rfl
       case hv => first | exact ⟨_, fun _ => rfl⟩ | exact ⟨undef, fun _ => rfl⟩
       apply obl_det
       case hrun =>
        intro D y wz hW hD R hR
        have HRR := Lib.hid hR
        clear hR
        try clear hn6
        try clear hnt5
        try clear hnl6
        try clear hnb
        try clear hk
        try clear ht
        try clear hpb
        try clear hgb
        have h29 : D 29 = false := hD.post _ 29 rfl (by kernel_rfl)
        rw [h29] at hW
        have H29 := Lib.hid h29
        clear h29
        have HW := Lib.hid hW
        have hc0 := HW.out.cell 0 rfl 0
        clear hW hD
        go_wp2_with fail
        refine HRR.out _ ?_
        show Bs W1 [(N1, .cells (if D 29 then #[.int .i64 (A1 + m1), .int .i64 (A2 + m2)] else #[.int .i64 A1, .int .i64 A2]) 30), (G, .cells #[.int .i64 p1, .int .i64 p2] 30)] _
        rw [H29.out]
        exact HW.out
       case hnp => rfl
       case hv => first | exact ⟨_, fun _ => rfl⟩ | exact ⟨undef, fun _ => rfl⟩
       iterate 4
        (apply obl_det
         case hrun =>
          intro D y wz hW hD R hR
          have HRR := Lib.hid hR
          clear hR
          try clear hn6
          try clear hnt5
          try clear hnl6
          try clear hnb
          try clear hk
          try clear ht
          try clear hpb
          try clear hgb
          have h29 : D 29 = false := hD.post _ 29 rfl (by kernel_rfl)
          rw [h29] at hW
          have H29 := Lib.hid h29
          clear h29
          have HW := Lib.hid hW
          clear hW hD
          go_wp2_with fail
          refine HRR.out _ ?_
          show Bs W1 [(N1, .cells (if D 29 then #[.int .i64 (A1 + m1), .int .i64 (A2 + m2)] else #[.int .i64 A1, .int .i64 A2]) 30), (G, .cells #[.int .i64 p1, .int .i64 p2] 30)] _
          rw [H29.out]
          exact HW.out
         case hnp => rfl
         case hv => first | exact ⟨_, fun _ => rfl⟩ | exact ⟨undef, fun _ => rfl⟩)
       apply obl_det
       case hrun =>
        intro D y wz hW hD R hR
        have HRR := Lib.hid hR
        clear hR
        try clear hn6
        try clear hnt5
        try clear hnl6
        try clear hnb
        try clear hk
        try clear ht
        try clear hpb
        try clear hgb
        have h29 : D 29 = false := hD.post _ 29 rfl (by kernel_rfl)
        rw [h29] at hW
        have H29 := Lib.hid h29
        clear h29
        have HW := Lib.hid hW
        have HZ := Lib.hid (HB1.out.trans (HW.out.bel.mono HB1.out.size))
        have h1 := (HZ.out.cell (p := ⟨b, o + k * 3, none⟩) HBB.out).trans HD1.out
        clear hW hD
        go_wp2_with fail
        refine HRR.out _ ?_
        show Bs W1 [(N1, .cells (if D 29 then #[.int .i64 (A1 + m1), .int .i64 (A2 + m2)] else #[.int .i64 A1, .int .i64 A2]) 30), (G, .cells #[.int .i64 p1, .int .i64 p2] 30)] _
        rw [H29.out]
        exact HW.out
       case hnp => rfl
       case hv => first | exact ⟨_, fun _ => rfl⟩ | exact ⟨undef, fun _ => rfl⟩
       iterate 2
        (apply obl_det
         case hrun =>
          intro D y wz hW hD R hR
          have HRR := Lib.hid hR
          clear hR
          try clear hn6
          try clear hnt5
          try clear hnl6
          try clear hnb
          try clear hk
          try clear ht
          try clear hpb
          try clear hgb
          have h29 : D 29 = false := hD.post _ 29 rfl (by kernel_rfl)
          rw [h29] at hW
          have H29 := Lib.hid h29
          clear h29
          have HW := Lib.hid hW
          clear hW hD
          go_wp2_with fail
          refine HRR.out _ ?_
          show Bs W1 [(N1, .cells (if D 29 then #[.int .i64 (A1 + m1), .int .i64 (A2 + m2)] else #[.int .i64 A1, .int .i64 A2]) 30), (G, .cells #[.int .i64 p1, .int .i64 p2] 30)] _
          rw [H29.out]
          exact HW.out
         case hnp => rfl
         case hv => first | exact ⟨_, fun _ => rfl⟩ | exact ⟨undef, fun _ => rfl⟩)
       apply obl_det
       case hrun =>
        intro D y wz hW hD R hR
        have HRR := Lib.hid hR
        clear hR
        try clear hn6
        try clear hnt5
        try clear hnl6
        try clear hnb
        try clear hk
        try clear ht
        try clear hpb
        try clear hgb
        have h29 : D 29 = false := hD.post _ 29 rfl (by kernel_rfl)
        rw [h29] at hW
        have H29 := Lib.hid h29
        clear h29
        have HW := Lib.hid hW
        have HZ := Lib.hid (HB1.out.trans (HW.out.bel.mono HB1.out.size))
        have h2 := (HZ.out.cell (p := ⟨gb, go + i, none⟩) HGBB.out).trans HGC.out
        clear hW hD
        go_wp2_with fail
        refine HRR.out _ ?_
        show Bs W1 [(N1, .cells (if D 29 then #[.int .i64 (A1 + m1), .int .i64 (A2 + m2)] else #[.int .i64 A1, .int .i64 A2]) 30), (G, .cells #[.int .i64 p1, .int .i64 p2] 30)] _
        rw [H29.out]
        exact HW.out
       case hnp => rfl
       case hv => first | exact ⟨_, fun _ => rfl⟩ | exact ⟨undef, fun _ => rfl⟩
       apply obl_det
       case hrun =>
        intro D y wz hW hD R hR
        have HRR := Lib.hid hR
        clear hR
        try clear hn6
        try clear hnt5
        try clear hnl6
        try clear hnb
        try clear hk
        try clear ht
        try clear hpb
        try clear hgb
        have h29 : D 29 = false := hD.post _ 29 rfl (by kernel_rfl)
        rw [h29] at hW
        have H29 := Lib.hid h29
        clear h29
        have HW := Lib.hid hW
        clear hW hD
        go_wp2_with fail
        refine HRR.out _ ?_
        show Bs W1 [(N1, .cells (if D 29 then #[.int .i64 (A1 + m1), .int .i64 (A2 + m2)] else #[.int .i64 A1, .int .i64 A2]) 30), (G, .cells #[.int .i64 p1, .int .i64 p2] 30)] _
        rw [H29.out]
        exact HW.out
       case hnp => rfl
       case hv => first | exact ⟨_, fun _ => rfl⟩ | exact ⟨undef, fun _ => rfl⟩
       apply obl_det
       case hrun =>
        intro D y wz hW hD R hR
        have HRR := Lib.hid hR
        clear hR
        try clear hn6
        try clear hnt5
        try clear hnl6
        try clear hnb
        try clear hk
        try clear ht
        try clear hpb
        try clear hgb
        have h29 : D 29 = false := hD.post _ 29 rfl (by kernel_rfl)
        rw [h29] at hW
        have H29 := Lib.hid h29
        clear h29
        have HW := Lib.hid hW
        have hc0 := HW.out.cell 1 rfl 0
        clear hW hD
        go_wp2_with fail
        refine HRR.out _ ?_
        show Bs W1 [(N1, .cells (if D 29 then #[.int .i64 (A1 + m1), .int .i64 (A2 + m2)] else #[.int .i64 A1, .int .i64 A2]) 30), (G, .cells #[.int .i64 p1, .int .i64 p2] 30)] _
        rw [H29.out]
        exact HW.out
       case hnp => rfl
       case hv => first | exact ⟨_, fun _ => rfl⟩ | exact ⟨undef, fun _ => rfl⟩
       apply obl_det
       case hrun =>
        intro D y wz hW hD R hR
        have HRR := Lib.hid hR
        clear hR
        try clear hn6
        try clear hnt5
        try clear hnl6
        try clear hnb
        try clear hk
        try clear ht
        try clear hpb
        try clear hgb
        have h29 : D 29 = false := hD.post _ 29 rfl (by kernel_rfl)
        rw [h29] at hW
        have H29 := Lib.hid h29
        clear h29
        have HW := Lib.hid hW
        clear hW hD
        go_wp2_with fail
        rw [HH1.out, HWP1.out]
        refine HRR.out _ ?_
        show Bs W1 [(N1, .cells (if D 29 then #[.int .i64 (A1 + m1), .int .i64 (A2 + m2)] else #[.int .i64 A1, .int .i64 A2]) 30), (G, .cells #[.int .i64 p1, .int .i64 p2] 30)] _
        rw [H29.out]
        exact HW.out
       case hnp => rfl
       case hv => first | exact ⟨_, fun _ => rfl⟩ | exact ⟨undef, fun _ => rfl⟩
       iterate 2
        (apply obl_det
         case hrun =>
          intro D y wz hW hD R hR
          have HRR := Lib.hid hR
          clear hR
          try clear hn6
          try clear hnt5
          try clear hnl6
          try clear hnb
          try clear hk
          try clear ht
          try clear hpb
          try clear hgb
          have h29 : D 29 = false := hD.post _ 29 rfl (by kernel_rfl)
          rw [h29] at hW
          have H29 := Lib.hid h29
          clear h29
          have HW := Lib.hid hW
          clear hW hD
          go_wp2_with fail
          refine HRR.out _ ?_
          show Bs W1 [(N1, .cells (if D 29 then #[.int .i64 (A1 + m1), .int .i64 (A2 + m2)] else #[.int .i64 A1, .int .i64 A2]) 30), (G, .cells #[.int .i64 p1, .int .i64 p2] 30)] _
          rw [H29.out]
          exact HW.out
         case hnp => rfl
         case hv => first | exact ⟨_, fun _ => rfl⟩ | exact ⟨undef, fun _ => rfl⟩)
       apply obl_det
       case hrun =>
        intro D y wz hW hD R hR
        have HRR := Lib.hid hR
        clear hR
        try clear hn6
        try clear hnt5
        try clear hnl6
        try clear hnb
        try clear hk
        try clear ht
        try clear hpb
        try clear hgb
        have h29 : D 29 = false := hD.post _ 29 rfl (by kernel_rfl)
        rw [h29] at hW
        have H29 := Lib.hid h29
        clear h29
        have HW := Lib.hid hW
        have hc0 := HW.out.cell 0 rfl 1
        clear hW hD
        go_wp2_with fail
        refine HRR.out _ ?_
        show Bs W1 [(N1, .cells (if D 29 then #[.int .i64 (A1 + m1), .int .i64 (A2 + m2)] else #[.int .i64 A1, .int .i64 A2]) 30), (G, .cells #[.int .i64 p1, .int .i64 p2] 30)] _
        rw [H29.out]
        exact HW.out
       case hnp => rfl
       case hv => first | exact ⟨_, fun _ => rfl⟩ | exact ⟨undef, fun _ => rfl⟩
       iterate 4
        (apply obl_det
         case hrun =>
          intro D y wz hW hD R hR
          have HRR := Lib.hid hR
          clear hR
          try clear hn6
          try clear hnt5
          try clear hnl6
          try clear hnb
          try clear hk
          try clear ht
          try clear hpb
          try clear hgb
          have h29 : D 29 = false := hD.post _ 29 rfl (by kernel_rfl)
          rw [h29] at hW
          have H29 := Lib.hid h29
          clear h29
          have HW := Lib.hid hW
          clear hW hD
          go_wp2_with fail
          refine HRR.out _ ?_
          show Bs W1 [(N1, .cells (if D 29 then #[.int .i64 (A1 + m1), .int .i64 (A2 + m2)] else #[.int .i64 A1, .int .i64 A2]) 30), (G, .cells #[.int .i64 p1, .int .i64 p2] 30)] _
          rw [H29.out]
          exact HW.out
         case hnp => rfl
         case hv => first | exact ⟨_, fun _ => rfl⟩ | exact ⟨undef, fun _ => rfl⟩)
       apply obl_det
       case hrun =>
        intro D y wz hW hD R hR
        have HRR := Lib.hid hR
        clear hR
        try clear hn6
        try clear hnt5
        try clear hnl6
        try clear hnb
        try clear hk
        try clear ht
        try clear hpb
        try clear hgb
        have h29 : D 29 = false := hD.post _ 29 rfl (by kernel_rfl)
        rw [h29] at hW
        have H29 := Lib.hid h29
        clear h29
        have HW := Lib.hid hW
        have HZ := Lib.hid (HB1.out.trans (HW.out.bel.mono HB1.out.size))
        have h1 := (HZ.out.cell (p := ⟨b, o + k * 3, none⟩) HBB.out).trans HD1.out
        clear hW hD
        go_wp2_with fail
        refine HRR.out _ ?_
        show Bs W1 [(N1, .cells (if D 29 then #[.int .i64 (A1 + m1), .int .i64 (A2 + m2)] else #[.int .i64 A1, .int .i64 A2]) 30), (G, .cells #[.int .i64 p1, .int .i64 p2] 30)] _
        rw [H29.out]
        exact HW.out
       case hnp => rfl
       case hv => first | exact ⟨_, fun _ => rfl⟩ | exact ⟨undef, fun _ => rfl⟩
       iterate 2
        (apply obl_det
         case hrun =>
          intro D y wz hW hD R hR
          have HRR := Lib.hid hR
          clear hR
          try clear hn6
          try clear hnt5
          try clear hnl6
          try clear hnb
          try clear hk
          try clear ht
          try clear hpb
          try clear hgb
          have h29 : D 29 = false := hD.post _ 29 rfl (by kernel_rfl)
          rw [h29] at hW
          have H29 := Lib.hid h29
          clear h29
          have HW := Lib.hid hW
          clear hW hD
          go_wp2_with fail
          refine HRR.out _ ?_
          show Bs W1 [(N1, .cells (if D 29 then #[.int .i64 (A1 + m1), .int .i64 (A2 + m2)] else #[.int .i64 A1, .int .i64 A2]) 30), (G, .cells #[.int .i64 p1, .int .i64 p2] 30)] _
          rw [H29.out]
          exact HW.out
         case hnp => rfl
         case hv => first | exact ⟨_, fun _ => rfl⟩ | exact ⟨undef, fun _ => rfl⟩)
       apply obl_det
       case hrun =>
        intro D y wz hW hD R hR
        have HRR := Lib.hid hR
        clear hR
        try clear hn6
        try clear hnt5
        try clear hnl6
        try clear hnb
        try clear hk
        try clear ht
        try clear hpb
        try clear hgb
        have h29 : D 29 = false := hD.post _ 29 rfl (by kernel_rfl)
        rw [h29] at hW
        have H29 := Lib.hid h29
        clear h29
        have HW := Lib.hid hW
        have HZ := Lib.hid (HB1.out.trans (HW.out.bel.mono HB1.out.size))
        have h2 := (HZ.out.cell (p := ⟨gb, go + i, none⟩) HGBB.out).trans HGC.out
        clear hW hD
        go_wp2_with fail
        refine HRR.out _ ?_
        show Bs W1 [(N1, .cells (if D 29 then #[.int .i64 (A1 + m1), .int .i64 (A2 + m2)] else #[.int .i64 A1, .int .i64 A2]) 30), (G, .cells #[.int .i64 p1, .int .i64 p2] 30)] _
        rw [H29.out]
        exact HW.out
       case hnp => rfl
       case hv => first | exact ⟨_, fun _ => rfl⟩ | exact ⟨undef, fun _ => rfl⟩
       apply obl_det
       case hrun =>
        intro D y wz hW hD R hR
        have HRR := Lib.hid hR
        clear hR
        try clear hn6
        try clear hnt5
        try clear hnl6
        try clear hnb
        try clear hk
        try clear ht
        try clear hpb
        try clear hgb
        have h29 : D 29 = false := hD.post _ 29 rfl (by kernel_rfl)
        rw [h29] at hW
        have H29 := Lib.hid h29
        clear h29
        have HW := Lib.hid hW
        clear hW hD
        go_wp2_with fail
        refine HRR.out _ ?_
        show Bs W1 [(N1, .cells (if D 29 then #[.int .i64 (A1 + m1), .int .i64 (A2 + m2)] else #[.int .i64 A1, .int .i64 A2]) 30), (G, .cells #[.int .i64 p1, .int .i64 p2] 30)] _
        rw [H29.out]
        exact HW.out
       case hnp => rfl
       case hv => first | exact ⟨_, fun _ => rfl⟩ | exact ⟨undef, fun _ => rfl⟩
       apply obl_det
       case hrun =>
        intro D y wz hW hD R hR
        have HRR := Lib.hid hR
        clear hR
        try clear hn6
        try clear hnt5
        try clear hnl6
        try clear hnb
        try clear hk
        try clear ht
        try clear hpb
        try clear hgb
        have h29 : D 29 = false := hD.post _ 29 rfl (by kernel_rfl)
        rw [h29] at hW
        have H29 := Lib.hid h29
        clear h29
        have HW := Lib.hid hW
        have hc0 := HW.out.cell 1 rfl 1
        clear hW hD
        go_wp2_with fail
        refine HRR.out _ ?_
        show Bs W1 [(N1, .cells (if D 29 then #[.int .i64 (A1 + m1), .int .i64 (A2 + m2)] else #[.int .i64 A1, .int .i64 A2]) 30), (G, .cells #[.int .i64 p1, .int .i64 p2] 30)] _
        rw [H29.out]
        exact HW.out
       case hnp => rfl
       case hv => first | exact ⟨_, fun _ => rfl⟩ | exact ⟨undef, fun _ => rfl⟩
       apply obl_det
       case hrun =>
        intro D y wz hW hD R hR
        have HRR := Lib.hid hR
        clear hR
        try clear hn6
        try clear hnt5
        try clear hnl6
        try clear hnb
        try clear hk
        try clear ht
        try clear hpb
        try clear hgb
        have h29 : D 29 = false := hD.post _ 29 rfl (by kernel_rfl)
        rw [h29] at hW
        have H29 := Lib.hid h29
        clear h29
        have HW := Lib.hid hW
        clear hW hD
        go_wp2_with fail
        rw [HH2.out, HWP2.out]
        refine HRR.out _ ?_
        show Bs W1 [(N1, .cells (if D 29 then #[.int .i64 (A1 + m1), .int .i64 (A2 + m2)] else #[.int .i64 A1, .int .i64 A2]) 30), (G, .cells #[.int .i64 p1, .int .i64 p2] 30)] _
        rw [H29.out]
        exact HW.out
       case hnp => rfl
       case hv => first | exact ⟨_, fun _ => rfl⟩ | exact ⟨undef, fun _ => rfl⟩
       iterate 2
        (apply obl_det
         case hrun =>
          intro D y wz hW hD R hR
          have HRR := Lib.hid hR
          clear hR
          try clear hn6
          try clear hnt5
          try clear hnl6
          try clear hnb
          try clear hk
          try clear ht
          try clear hpb
          try clear hgb
          have h29 : D 29 = false := hD.post _ 29 rfl (by kernel_rfl)
          rw [h29] at hW
          have H29 := Lib.hid h29
          clear h29
          have HW := Lib.hid hW
          clear hW hD
          go_wp2_with fail
          refine HRR.out _ ?_
          show Bs W1 [(N1, .cells (if D 29 then #[.int .i64 (A1 + m1), .int .i64 (A2 + m2)] else #[.int .i64 A1, .int .i64 A2]) 30), (G, .cells #[.int .i64 p1, .int .i64 p2] 30)] _
          rw [H29.out]
          exact HW.out
         case hnp => rfl
         case hv => first | exact ⟨_, fun _ => rfl⟩ | exact ⟨undef, fun _ => rfl⟩)
       apply obl_det
       case hrun =>
        intro D y wz hW hD R hR
        have HRR := Lib.hid hR
        clear hR
        have h29 : D 29 = false := hD.not
        rw [h29] at hW
        have HW := Lib.hid hW
        clear hW hD h29
        refine wpList_store_bs rfl 30 _ _ rfl HW.out 0 _ #[.int .i64 (A1 + m1), .int .i64 (A2 + m2)] _ _ rfl rfl rfl info51 rfl (by simp [Value.oneCell']) ?_
        intro w4 hC4
        simp only [Act.put]
        go_simp
        exact HRR.out _ hC4
       case hnp => rfl
       case hv => first | exact ⟨_, fun _ => rfl⟩ | exact ⟨undef, fun _ => rfl⟩
       apply obl_nil
       intro D y w8 hall hW
       rw [hall 29 (by decide)] at hW
       have CN := Lib.hid (hW.sub [(N1, .cells #[.int .i64 (A1 + m1), .int .i64 (A2 + m2)] 30)] (by simp))
       clear hall hW
       have e1 : A1 + m1 = (midA s l k (i + 1) t).1 := by rw [HMI.out]
       have e2 : A2 + m2 = (midA s l k (i + 1) t).2 := by rw [HMI.out]
       rw [e1, e2] at CN
       clear e1 e2
       go_wp2_with fail
       refine ⟨⟨i + 1, by push_cast; rfl, by omega, CN.out⟩, ?_⟩
       simp [intOf]; omega
      ·obtain rfl : i = s.lots.length := by omega
       rw [← HMZ.out] at CI
       go_wp2_with fail
       clear hcb1
       go_loopw [12] (fun iv wr => ∃ i : Nat, iv = .int .i64 i ∧ i ≤ (l.getD k default).back.length ∧ Bs W1 [(N1, .cells #[.int .i64 (midB s l k i t).1, .int .i64 (midB s l k i t).2] 30)] wr) (fun iv _ => (l.getD k default).back.length - (intOf iv).toNat)
       case atStart => exact ⟨0, rfl, by omega, CI.out⟩
       case round =>
        clear CI HB2 HBS2
        obtain ⟨i, rfl, hi, hbs⟩ := hrel
        have CI := Lib.hid hbs
        clear hbs
        have HB2 : Hid (Below w.heap.size w wr) := HB1.out.trans (CI.out.bel.mono HB1.out.size)
        have hr0 := (HB2.out.cell (p := ⟨b, o + k * 3 + 1, none⟩) HBB.out).trans HD2.out
        by_cases hib : i < (l.getD k default).back.length
        ·have hik : i < k := by omega
         have HBT2 : Hid (Below N Wk W1) := HBt.out
         have HTB1 : Hid (TableIn W1.heap.size W1 (.slice tva k tvc) (rowsV s l k)) := by have h := HTB.out; exact (SlIn.below h (by rw [HNW.out]; exact HBt.out)).mono (by rw [HNW.out]; exact HNt.out)
         obtain ⟨tb, to, rfl, htb, rv2, hrc, hsp⟩ := HTB1.out.at' (i := i) (by rw [rowsV_length]; exact hik)
         have hrc : W1.cell? ⟨tb, to + i, none⟩ = some rv2 := by have h := hrc; simpa [rdSpans] using h
         have HRW : Hid ((rowsV s l k).getD i default = (List.range s.things.length).map (micV s l i)) := by
          have h := rangesV_get s l hik hk
          rw [row_eq s l (by omega)] at h
          exact h
         rw [HRW.out] at hsp
         obtain ⟨ra2, rc2, rfl, -⟩ := sl_shape hsp
         obtain ⟨br, or, rfl, hbr, hq1, hq2⟩ := hsp.at' (i := t) (by simpa using htl)
         have hmr : ((List.range s.things.length).map (micV s l i)).getD t default = micV s l i t := mapr_get _ _ _ htl _
         rw [hmr] at hq1 hq2
         have hq1 : W1.cell? ⟨br, or + t * 2, none⟩ = some (.int .i64 (micV s l i t).1) := hq1
         have hq2 : W1.cell? ⟨br, or + t * 2 + 1, none⟩ = some (.int .i64 (micV s l i t).2) := hq2
         have hln : ((List.range s.things.length).map (micV s l i)).length = s.things.length := by simp
         rw [hln] at hrc
         have HRC := Lib.hid hrc
         have HTBB := Lib.hid (show tb < N1 by rw [← HN1.out]; exact htb)
         have HBR := Lib.hid (show br < N1 by rw [← HN1.out]; exact hbr)
         have HQ1 := Lib.hid hq1
         have HQ2 := Lib.hid hq2
         clear hrc hsp htb hbr hq1 hq2 hmr hln
         obtain ⟨b', o', he, hbb', ug, ub, ua, hf1, hf2, hf3, hat⟩ := HL.out.at' (i := i) (by omega)
         cases he
         have HF1 : Hid (w.cell? ⟨b, o + i * 3, none⟩ = some ug) := hf1
         have HF2 : Hid (w.cell? ⟨b, o + i * 3 + 1, none⟩ = some ub) := hf2
         have HF3 : Hid (w.cell? ⟨b, o + i * 3 + 2, none⟩ = some ua) := hf3
         have HAI := Lib.hid hat
         have HGI := Lib.hid ((bat_ok0 (batchE_zero (HG.out.pre i (by omega))).1).gramsOk hnl6 (show i ≤ 6 by omega))
         have HWP := Lib.hid (HG.out.pre.pos HG.out.sh hn6 (Nat.le_refl _) (show i < l.length by omega))
         have HMO := Lib.hid (mic_ok HG.out.sh hn6 (k := i) (fun j hj => HG.out.pre j (by omega)) (by omega) t)
         have HPO := Lib.hid (par_ok HG.out.sh hn6 (k := k) (fun j hj => HG.out.pre j (by omega)) hk hik t)
         obtain ⟨e1, f1, rfl, -⟩ := hat.1
         obtain ⟨e2, f2, rfl, -⟩ := hat.2.1
         obtain ⟨e3, f3, rfl, -⟩ := sl_shape hat.2.2
         clear hf1 hf2 hf3 hat hbb'
         have HWI := fun w => Lib.hid (weight_ref (l.getD i default) (.slice e1 (l.getD i default).grams.length f1) (.slice e2 (l.getD i default).back.length f2) (.slice e3 (l.getD i default).added.length f3) w)
         have HPR := fun w => Lib.hid (parts_ref (micV s l i t).1 (micV s l i t).2 (weightV (l.getD i default)) w HMO.out.1 HMO.out.2.1 HMO.out.2.2 HWP.out.1 HWP.out.2)
         have HMI := Lib.hid (HMB i hik).out
         unfold parV at HPO
         obtain ⟨p, hp⟩ : ∃ p, partsV (weightV (l.getD i default)) (micV s l i t) = p := ⟨_, rfl⟩
         have HPR := fun w => Lib.hid (show Calls Tryz.prog 93 _ w (fun e w' => e = .returned (.agg #[.int .i64 p.1, .int .i64 p.2]) ∧ Below w.heap.size w w') by have h := (HPR w).out; rw [show ((micV s l i t).1, (micV s l i t).2) = micV s l i t from rfl, hp] at h; exact h)
         rw [hp] at HMI HPO
         clear hp
         obtain ⟨p1, p2⟩ := p
         simp only at HMI HPO HPR
         have hgb := HBO.out.back i
         have hab := HBD.out.2 i t (by omega)
         have habn := HBD.out.2 (i + 1) t (by omega)
         rw [HMI.out] at habn
         obtain ⟨gb, go, rfl, hgbb, hgc⟩ := (show (l.getD k default).back.length = 0 ∨ ∃ gb go, a2 = some ⟨gb, go, none⟩ ∧ gb < w.heap.size ∧ w.cell? ⟨gb, go + i, none⟩ = some (.int .i64 ((l.getD k default).back.getD i 0)) by
          obtain ⟨a', c', e, -, h⟩ := HAB.out
          simp only [Value.slice.injEq] at e
          obtain ⟨rfl, -, -⟩ := e
          rcases h with h | ⟨gb, go, rfl, h1, h2⟩
          ·rw [h]; exact .inl rfl
          ·exact .inr ⟨gb, go, rfl, h1, h2 i hib⟩).resolve_left (by omega)
         have HGC := Lib.hid hgc
         have HGBB := Lib.hid hgbb
         obtain ⟨g, hg⟩ : ∃ g, (l.getD k default).back.getD i 0 = g := ⟨_, rfl⟩
         rw [hg] at hgb HMI habn HGC
         have hpb := HPO.out
         have hm1 := mul_bound hgb (show 0 ≤ p1 ∧ p1 ≤ 1000000 by omega)
         have hm2 := mul_bound hgb (show 0 ≤ p2 ∧ p2 ≤ 1000000 by omega)
         have HWP1 : Hid (wrap64 (g * p1) = g * p1) := by unfold Hid wrap64; omega
         have HWP2 : Hid (wrap64 (g * p2) = g * p2) := by unfold Hid wrap64; omega
         obtain ⟨m1, hm1e⟩ : ∃ m1, g * p1 = m1 := ⟨_, rfl⟩
         obtain ⟨m2, hm2e⟩ : ∃ m2, g * p2 = m2 := ⟨_, rfl⟩
         rw [hm1e] at HWP1
         rw [hm2e] at HWP2
         rw [hm1e, hm2e] at HMI habn
         rw [hm1e] at hm1
         rw [hm2e] at hm2
         obtain ⟨A, hA⟩ : ∃ A, midB s l k i t = A := ⟨_, rfl⟩
         rw [hA] at HMI hab habn CI
         obtain ⟨A1, A2⟩ := A
         simp only at HMI hab habn CI
         have HH1 := Lib.hid hm1e
         have HH2 := Lib.hid hm2e
         have HIB := Lib.hid hib
         clear hgc hgbb hg hA hm1e hm2e
         generalize hMC : micV s l i t = MC at *
         generalize weightV (l.getD i default) = WI at *
         obtain ⟨mc1, mc2⟩ := MC
         simp only at HQ1 HQ2 HPR
         clear hMC
         generalize hnbk : (l.getD k default).back.length = nbk at *
         have hii : (i : Int) < (nbk : Int) := by omega
         have hik2 : (i : Int) < (l.length : Int) := by omega
         have hik3 : (i : Int) < (k : Int) := by omega
         go_wp2_with fail
         clear hr0
         refine wp_region_inv1 (by kernel_rfl) (by kernel_rfl) [13] (fun D y w' => PrW W1 N1 #[.int .i64 A1, .int .i64 A2] #[.int .i64 p1, .int .i64 p2] (D 13) (D 14) (y 13) w') ⟨CI.out.drew, fun h => (by cases h)⟩ ?FP ?hFP ?_
         case hFP =>
          intro y
          simp only [fill, List.foldl, Act.put, List.setIfInBounds_toArray, List.set]
          exact rfl
         iterate 3
          (apply obl_det
           case hrun =>
            intro D y wz hW hD R hR
            have HRR := Lib.hid hR
            clear hR
            try clear hn6
            try clear hnt5
            try clear hnl6
            try clear hnb
            try clear hk
            try clear ht
            try clear hpb
            try clear hgb
            try clear hab
            try clear habn
            have HW := Lib.hid hW
            clear hW hD
            go_wp2_with fail
            exact HRR.out _ ⟨HW.out.bs, HW.out.al⟩
           case hnp => rfl
           case hv => first | exact ⟨_, fun _ => rfl⟩ | exact ⟨undef, fun _ => rfl⟩)
         apply obl_det
         case hrun =>
          intro D y wz hW hD R hR
          have HRR := Lib.hid hR
          clear hR
          try clear hn6
          try clear hnt5
          try clear hnl6
          try clear hnb
          try clear hk
          try clear ht
          try clear hpb
          try clear hgb
          try clear hab
          try clear habn
          have HW := Lib.hid hW
          have h1 := (HW.out.bs.bel.cell (p := ⟨tb, to + i, none⟩) (by rw [HN1.out]; exact HTBB.out)).trans HRC.out
          clear hW hD
          go_wp2_with fail
          exact HRR.out _ ⟨HW.out.bs, HW.out.al⟩
         case hnp => rfl
         case hv => first | exact ⟨_, fun _ => rfl⟩ | exact ⟨undef, fun _ => rfl⟩
         iterate 2
          (apply obl_det
           case hrun =>
            intro D y wz hW hD R hR
            have HRR := Lib.hid hR
            clear hR
            try clear hn6
            try clear hnt5
            try clear hnl6
            try clear hnb
            try clear hk
            try clear ht
            try clear hpb
            try clear hgb
            try clear hab
            try clear habn
            have HW := Lib.hid hW
            clear hW hD
            go_wp2_with fail
            exact HRR.out _ ⟨HW.out.bs, HW.out.al⟩
           case hnp => rfl
           case hv => first | exact ⟨_, fun _ => rfl⟩ | exact ⟨undef, fun _ => rfl⟩)
         apply obl_det
         case hrun =>
          intro D y wz hW hD R hR
          have HRR := Lib.hid hR
          clear hR
          try clear hn6
          try clear hnt5
          try clear hnl6
          try clear hnb
          try clear hk
          try clear ht
          try clear hpb
          try clear hgb
          try clear hab
          try clear habn
          have HW := Lib.hid hW
          have h1 := (HW.out.bs.bel.cell (p := ⟨br, or + t * 2, none⟩) (by rw [HN1.out]; exact HBR.out)).trans HQ1.out
          have h2 := (HW.out.bs.bel.cell (p := ⟨br, or + t * 2 + 1, none⟩) (by rw [HN1.out]; exact HBR.out)).trans HQ2.out
          clear hW hD
          go_wp2_with fail
          exact HRR.out _ ⟨HW.out.bs, HW.out.al⟩
         case hnp => rfl
         case hv => first | exact ⟨_, fun _ => rfl⟩ | exact ⟨undef, fun _ => rfl⟩
         iterate 3
          (apply obl_det
           case hrun =>
            intro D y wz hW hD R hR
            have HRR := Lib.hid hR
            clear hR
            try clear hn6
            try clear hnt5
            try clear hnl6
            try clear hnb
            try clear hk
            try clear ht
            try clear hpb
            try clear hgb
            try clear hab
            try clear habn
            have HW := Lib.hid hW
            clear hW hD
            go_wp2_with fail
            exact HRR.out _ ⟨HW.out.bs, HW.out.al⟩
           case hnp => rfl
           case hv => first | exact ⟨_, fun _ => rfl⟩ | exact ⟨undef, fun _ => rfl⟩)
         apply obl_det
         case hrun =>
          intro D y wz hW hD R hR
          have HRR := Lib.hid hR
          clear hR
          try clear hn6
          try clear hnt5
          try clear hnl6
          try clear hnb
          try clear hk
          try clear ht
          try clear hpb
          try clear hgb
          try clear hab
          try clear habn
          have HW := Lib.hid hW
          have HZ := Lib.hid (HB1.out.trans (HW.out.bs.bel.mono HB1.out.size))
          have h1 := (HZ.out.cell (p := ⟨b, o + i * 3, none⟩) HBB.out).trans HF1.out
          have h2 := (HZ.out.cell (p := ⟨b, o + i * 3 + 1, none⟩) HBB.out).trans HF2.out
          have h3 := (HZ.out.cell (p := ⟨b, o + i * 3 + 2, none⟩) HBB.out).trans HF3.out
          clear hW hD
          go_wp2_with fail
          exact HRR.out _ ⟨HW.out.bs, HW.out.al⟩
         case hnp => rfl
         case hv => first | exact ⟨_, fun _ => rfl⟩ | exact ⟨undef, fun _ => rfl⟩
         apply obl_det
         case hrun =>
          intro D y wz hW hD R hR
          have HRR := Lib.hid hR
          clear hR
          try clear hn6
          try clear hnt5
          try clear hnl6
          try clear hnb
          try clear hk
          try clear ht
          try clear hpb
          try clear hgb
          try clear hab
          try clear habn
          have HW := Lib.hid hW
          have HZ := Lib.hid (HB1.out.trans (HW.out.bs.bel.mono HB1.out.size))
          clear hW hD
          go_wp2_with fail
          refine ((HWI wz).out ((HAI.out.below HZ.out).mono HZ.out.size) HGI.out.1 HGI.out.2).mono ?_
          rintro e w' ⟨rfl, hb⟩
          have HW2 := Lib.hid (PrW.next HW.out hb)
          clear hb
          go_wp2_with fail
          exact HRR.out _ ⟨HW2.out.bs, HW2.out.al⟩
         case hnp => rfl
         case hv => first | exact ⟨_, fun _ => rfl⟩ | exact ⟨undef, fun _ => rfl⟩
         apply obl_det
         case hrun =>
          intro D y wz hW hD R hR
          have HRR := Lib.hid hR
          clear hR
          try clear hn6
          try clear hnt5
          try clear hnl6
          try clear hnb
          try clear hk
          try clear ht
          try clear hpb
          try clear hgb
          try clear hab
          try clear habn
          have HW := Lib.hid hW
          clear hW hD
          go_wp2_with fail
          refine ((HPR wz).out).mono ?_
          rintro e w' ⟨rfl, hb⟩
          have HW2 := Lib.hid (PrW.next HW.out hb)
          clear hb
          go_wp2_with fail
          exact HRR.out _ ⟨HW2.out.bs, HW2.out.al⟩
         case hnp => rfl
         case hv => first | exact ⟨_, fun _ => rfl⟩ | exact ⟨undef, fun _ => rfl⟩
         apply obl_priv 13
         case hd => rfl
         case hp => rfl
         case hrun =>
          intro D y wz hW hD R hR
          have HRR := Lib.hid hR
          clear hR
          have h14 : D 14 = false := hD.post _ 14 rfl (by kernel_rfl)
          have HBS := Lib.hid hW.bs
          have H14 := Lib.hid h14
          clear hW hD h14
          go_wp2_with fail
          refine HRR.out (.pointer (some ⟨wz.heap.size, 0, none⟩)) _ ⟨HBS.out.alloc _, fun _ => ⟨_, rfl, HBS.out.lt 0 rfl, ?_⟩⟩
          show _ = some (Obj.cells (if D 14 = true then _ else _) 30)
          rw [H14.out]
          exact heap_alloc_new _ _
         apply obl_det
         case hrun =>
          intro D y wz hW hD R hR
          have HRR := Lib.hid hR
          clear hR
          have h14 : D 14 = false := hD.not
          obtain ⟨gp, e, hgt, hcell⟩ := hW.al (hD.pre _ 13 rfl (by kernel_rfl))
          rw [h14] at hcell
          have CC := Lib.hid (Bs.snoc hW.bs (by intro p hp; simp at hp; subst hp; exact hgt) hcell (by have := hW.bs.ge _ (List.mem_singleton.2 rfl); simp at this; omega))
          have E := Lib.hid e
          have HGT := Lib.hid hgt
          clear hW hD h14 hcell e hgt
          refine wpList_store_bs rfl 30 _ _ rfl CC.out 1 gp #[.int .i64 p1, .int .i64 p2] _ _ rfl E.out rfl info51 rfl (by simp [Value.oneCell']) ?_
          intro w4 hC4
          simp only [Act.put]
          go_simp
          exact HRR.out _ ⟨hC4.sub [(N1, .cells #[.int .i64 A1, .int .i64 A2] 30)] (by simp), fun _ => ⟨gp, E.out, HGT.out, hC4.get 1 rfl⟩⟩
         case hnp => rfl
         case hv => first | exact ⟨_, fun _ => rfl⟩ | exact ⟨undef, fun _ => rfl⟩
         apply obl_nil
         intro D y w8 hall hW
         obtain ⟨gp, e, hgt, hcell⟩ := hW.al (hall 13 (by decide))
         rw [hall 14 (by decide)] at hcell
         have C11 := Lib.hid (Bs.snoc hW.bs (by intro p hp; simp at hp; subst hp; exact hgt) hcell (by have := hW.bs.ge _ (List.mem_singleton.2 rfl); simp at this; omega))
         clear hW hall hcell
         rw [e]
         clear e
         simp only [if_true, List.cons_append, List.nil_append] at C11
         go_wp2_with fail
         refine wp_region_inv0 (by kernel_rfl) (by kernel_rfl) (fun D w' => Bs W1 [(N1, .cells (if D 29 then #[.int .i64 (A1 + m1), .int .i64 (A2 + m2)] else #[.int .i64 A1, .int .i64 A2]) 30), (gp, .cells #[.int .i64 p1, .int .i64 p2] 30)] w') (C11.out.drew) ?_
         apply obl_det
         case hrun =>
          intro D y wz hW hD R hR
          have HRR := Lib.hid hR
          clear hR
          try clear hn6
          try clear hnt5
          try clear hnl6
          try clear hnb
          try clear hk
          try clear ht
          try clear hpb
          try clear hgb
          have h29 : D 29 = false := hD.post _ 29 rfl (by kernel_rfl)
          rw [h29] at hW
          have H29 := Lib.hid h29
          clear h29
          have HW := Lib.hid hW
          clear hW hD
          go_wp2_with fail
          refine HRR.out _ ?_
          show Bs W1 [(N1, .cells (if D 29 then #[.int .i64 (A1 + m1), .int .i64 (A2 + m2)] else #[.int .i64 A1, .int .i64 A2]) 30), (gp, .cells #[.int .i64 p1, .int .i64 p2] 30)] _
          rw [H29.out]
          exact HW.out
         case hnp => rfl
         case hv => first | exact ⟨_, fun _ => rfl⟩ | exact ⟨undef, fun _ => rfl⟩
         apply obl_det
         case hrun =>
          intro D y wz hW hD R hR
          have HRR := Lib.hid hR
          clear hR
          try clear hn6
          try clear hnt5
          try clear hnl6
          try clear hnb
          try clear hk
          try clear ht
          try clear hpb
          try clear hgb
          have h29 : D 29 = false := hD.post _ 29 rfl (by kernel_rfl)
          rw [h29] at hW
          have H29 := Lib.hid h29
          clear h29
          have HW := Lib.hid hW
          have hc0 := HW.out.cell 0 rfl 0
          clear hW hD
          go_wp2_with fail
          refine HRR.out _ ?_
          show Bs W1 [(N1, .cells (if D 29 then #[.int .i64 (A1 + m1), .int .i64 (A2 + m2)] else #[.int .i64 A1, .int .i64 A2]) 30), (gp, .cells #[.int .i64 p1, .int .i64 p2] 30)] _
          rw [H29.out]
          exact HW.out
         case hnp => rfl
         case hv => first | exact ⟨_, fun _ => rfl⟩ | exact ⟨undef, fun _ => rfl⟩
         iterate 4
          (apply obl_det
           case hrun =>
            intro D y wz hW hD R hR
            have HRR := Lib.hid hR
            clear hR
            try clear hn6
            try clear hnt5
            try clear hnl6
            try clear hnb
            try clear hk
            try clear ht
            try clear hpb
            try clear hgb
            have h29 : D 29 = false := hD.post _ 29 rfl (by kernel_rfl)
            rw [h29] at hW
            have H29 := Lib.hid h29
            clear h29
            have HW := Lib.hid hW
            clear hW hD
            go_wp2_with fail
            refine HRR.out _ ?_
            show Bs W1 [(N1, .cells (if D 29 then #[.int .i64 (A1 + m1), .int .i64 (A2 + m2)] else #[.int .i64 A1, .int .i64 A2]) 30), (gp, .cells #[.int .i64 p1, .int .i64 p2] 30)] _
            rw [H29.out]
            exact HW.out
           case hnp => rfl
           case hv => first | exact ⟨_, fun _ => rfl⟩ | exact ⟨undef, fun _ => rfl⟩)
         apply obl_det
         case hrun =>
          intro D y wz hW hD R hR
          have HRR := Lib.hid hR
          clear hR
          try clear hn6
          try clear hnt5
          try clear hnl6
          try clear hnb
          try clear hk
          try clear ht
          try clear hpb
          try clear hgb
          have h29 : D 29 = false := hD.post _ 29 rfl (by kernel_rfl)
          rw [h29] at hW
          have H29 := Lib.hid h29
          clear h29
          have HW := Lib.hid hW
          have HZ := Lib.hid (HB1.out.trans (HW.out.bel.mono HB1.out.size))
          have h1 := (HZ.out.cell (p := ⟨b, o + k * 3 + 1, none⟩) HBB.out).trans HD2.out
          clear hW hD
          go_wp2_with fail
          refine HRR.out _ ?_
          show Bs W1 [(N1, .cells (if D 29 then #[.int .i64 (A1 + m1), .int .i64 (A2 + m2)] else #[.int .i64 A1, .int .i64 A2]) 30), (gp, .cells #[.int .i64 p1, .int .i64 p2] 30)] _
          rw [H29.out]
          exact HW.out
         case hnp => rfl
         case hv => first | exact ⟨_, fun _ => rfl⟩ | exact ⟨undef, fun _ => rfl⟩
         iterate 2
          (apply obl_det
           case hrun =>
            intro D y wz hW hD R hR
            have HRR := Lib.hid hR
            clear hR
            try clear hn6
            try clear hnt5
            try clear hnl6
            try clear hnb
            try clear hk
            try clear ht
            try clear hpb
            try clear hgb
            have h29 : D 29 = false := hD.post _ 29 rfl (by kernel_rfl)
            rw [h29] at hW
            have H29 := Lib.hid h29
            clear h29
            have HW := Lib.hid hW
            clear hW hD
            go_wp2_with fail
            refine HRR.out _ ?_
            show Bs W1 [(N1, .cells (if D 29 then #[.int .i64 (A1 + m1), .int .i64 (A2 + m2)] else #[.int .i64 A1, .int .i64 A2]) 30), (gp, .cells #[.int .i64 p1, .int .i64 p2] 30)] _
            rw [H29.out]
            exact HW.out
           case hnp => rfl
           case hv => first | exact ⟨_, fun _ => rfl⟩ | exact ⟨undef, fun _ => rfl⟩)
         apply obl_det
         case hrun =>
          intro D y wz hW hD R hR
          have HRR := Lib.hid hR
          clear hR
          try clear hn6
          try clear hnt5
          try clear hnl6
          try clear hnb
          try clear hk
          try clear ht
          try clear hpb
          try clear hgb
          have h29 : D 29 = false := hD.post _ 29 rfl (by kernel_rfl)
          rw [h29] at hW
          have H29 := Lib.hid h29
          clear h29
          have HW := Lib.hid hW
          have HZ := Lib.hid (HB1.out.trans (HW.out.bel.mono HB1.out.size))
          have h2 := (HZ.out.cell (p := ⟨gb, go + i, none⟩) HGBB.out).trans HGC.out
          clear hW hD
          go_wp2_with fail
          refine HRR.out _ ?_
          show Bs W1 [(N1, .cells (if D 29 then #[.int .i64 (A1 + m1), .int .i64 (A2 + m2)] else #[.int .i64 A1, .int .i64 A2]) 30), (gp, .cells #[.int .i64 p1, .int .i64 p2] 30)] _
          rw [H29.out]
          exact HW.out
         case hnp => rfl
         case hv => first | exact ⟨_, fun _ => rfl⟩ | exact ⟨undef, fun _ => rfl⟩
         apply obl_det
         case hrun =>
          intro D y wz hW hD R hR
          have HRR := Lib.hid hR
          clear hR
          try clear hn6
          try clear hnt5
          try clear hnl6
          try clear hnb
          try clear hk
          try clear ht
          try clear hpb
          try clear hgb
          have h29 : D 29 = false := hD.post _ 29 rfl (by kernel_rfl)
          rw [h29] at hW
          have H29 := Lib.hid h29
          clear h29
          have HW := Lib.hid hW
          clear hW hD
          go_wp2_with fail
          refine HRR.out _ ?_
          show Bs W1 [(N1, .cells (if D 29 then #[.int .i64 (A1 + m1), .int .i64 (A2 + m2)] else #[.int .i64 A1, .int .i64 A2]) 30), (gp, .cells #[.int .i64 p1, .int .i64 p2] 30)] _
          rw [H29.out]
          exact HW.out
         case hnp => rfl
         case hv => first | exact ⟨_, fun _ => rfl⟩ | exact ⟨undef, fun _ => rfl⟩
         apply obl_det
         case hrun =>
          intro D y wz hW hD R hR
          have HRR := Lib.hid hR
          clear hR
          try clear hn6
          try clear hnt5
          try clear hnl6
          try clear hnb
          try clear hk
          try clear ht
          try clear hpb
          try clear hgb
          have h29 : D 29 = false := hD.post _ 29 rfl (by kernel_rfl)
          rw [h29] at hW
          have H29 := Lib.hid h29
          clear h29
          have HW := Lib.hid hW
          have hc0 := HW.out.cell 1 rfl 0
          clear hW hD
          go_wp2_with fail
          refine HRR.out _ ?_
          show Bs W1 [(N1, .cells (if D 29 then #[.int .i64 (A1 + m1), .int .i64 (A2 + m2)] else #[.int .i64 A1, .int .i64 A2]) 30), (gp, .cells #[.int .i64 p1, .int .i64 p2] 30)] _
          rw [H29.out]
          exact HW.out
         case hnp => rfl
         case hv => first | exact ⟨_, fun _ => rfl⟩ | exact ⟨undef, fun _ => rfl⟩
         apply obl_det
         case hrun =>
          intro D y wz hW hD R hR
          have HRR := Lib.hid hR
          clear hR
          try clear hn6
          try clear hnt5
          try clear hnl6
          try clear hnb
          try clear hk
          try clear ht
          try clear hpb
          try clear hgb
          have h29 : D 29 = false := hD.post _ 29 rfl (by kernel_rfl)
          rw [h29] at hW
          have H29 := Lib.hid h29
          clear h29
          have HW := Lib.hid hW
          clear hW hD
          go_wp2_with fail
          rw [HH1.out, HWP1.out]
          refine HRR.out _ ?_
          show Bs W1 [(N1, .cells (if D 29 then #[.int .i64 (A1 + m1), .int .i64 (A2 + m2)] else #[.int .i64 A1, .int .i64 A2]) 30), (gp, .cells #[.int .i64 p1, .int .i64 p2] 30)] _
          rw [H29.out]
          exact HW.out
         case hnp => rfl
         case hv => first | exact ⟨_, fun _ => rfl⟩ | exact ⟨undef, fun _ => rfl⟩
         iterate 2
          (apply obl_det
           case hrun =>
            intro D y wz hW hD R hR
            have HRR := Lib.hid hR
            clear hR
            try clear hn6
            try clear hnt5
            try clear hnl6
            try clear hnb
            try clear hk
            try clear ht
            try clear hpb
            try clear hgb
            have h29 : D 29 = false := hD.post _ 29 rfl (by kernel_rfl)
            rw [h29] at hW
            have H29 := Lib.hid h29
            clear h29
            have HW := Lib.hid hW
            clear hW hD
            go_wp2_with fail
            refine HRR.out _ ?_
            show Bs W1 [(N1, .cells (if D 29 then #[.int .i64 (A1 + m1), .int .i64 (A2 + m2)] else #[.int .i64 A1, .int .i64 A2]) 30), (gp, .cells #[.int .i64 p1, .int .i64 p2] 30)] _
            rw [H29.out]
            exact HW.out
           case hnp => rfl
           case hv => first | exact ⟨_, fun _ => rfl⟩ | exact ⟨undef, fun _ => rfl⟩)
         apply obl_det
         case hrun =>
          intro D y wz hW hD R hR
          have HRR := Lib.hid hR
          clear hR
          try clear hn6
          try clear hnt5
          try clear hnl6
          try clear hnb
          try clear hk
          try clear ht
          try clear hpb
          try clear hgb
          have h29 : D 29 = false := hD.post _ 29 rfl (by kernel_rfl)
          rw [h29] at hW
          have H29 := Lib.hid h29
          clear h29
          have HW := Lib.hid hW
          have hc0 := HW.out.cell 0 rfl 1
          clear hW hD
          go_wp2_with fail
          refine HRR.out _ ?_
          show Bs W1 [(N1, .cells (if D 29 then #[.int .i64 (A1 + m1), .int .i64 (A2 + m2)] else #[.int .i64 A1, .int .i64 A2]) 30), (gp, .cells #[.int .i64 p1, .int .i64 p2] 30)] _
          rw [H29.out]
          exact HW.out
         case hnp => rfl
         case hv => first | exact ⟨_, fun _ => rfl⟩ | exact ⟨undef, fun _ => rfl⟩
         iterate 4
          (apply obl_det
           case hrun =>
            intro D y wz hW hD R hR
            have HRR := Lib.hid hR
            clear hR
            try clear hn6
            try clear hnt5
            try clear hnl6
            try clear hnb
            try clear hk
            try clear ht
            try clear hpb
            try clear hgb
            have h29 : D 29 = false := hD.post _ 29 rfl (by kernel_rfl)
            rw [h29] at hW
            have H29 := Lib.hid h29
            clear h29
            have HW := Lib.hid hW
            clear hW hD
            go_wp2_with fail
            refine HRR.out _ ?_
            show Bs W1 [(N1, .cells (if D 29 then #[.int .i64 (A1 + m1), .int .i64 (A2 + m2)] else #[.int .i64 A1, .int .i64 A2]) 30), (gp, .cells #[.int .i64 p1, .int .i64 p2] 30)] _
            rw [H29.out]
            exact HW.out
           case hnp => rfl
           case hv => first | exact ⟨_, fun _ => rfl⟩ | exact ⟨undef, fun _ => rfl⟩)
         apply obl_det
         case hrun =>
          intro D y wz hW hD R hR
          have HRR := Lib.hid hR
          clear hR
          try clear hn6
          try clear hnt5
          try clear hnl6
          try clear hnb
          try clear hk
          try clear ht
          try clear hpb
          try clear hgb
          have h29 : D 29 = false := hD.post _ 29 rfl (by kernel_rfl)
          rw [h29] at hW
          have H29 := Lib.hid h29
          clear h29
          have HW := Lib.hid hW
          have HZ := Lib.hid (HB1.out.trans (HW.out.bel.mono HB1.out.size))
          have h1 := (HZ.out.cell (p := ⟨b, o + k * 3 + 1, none⟩) HBB.out).trans HD2.out
          clear hW hD
          go_wp2_with fail
          refine HRR.out _ ?_
          show Bs W1 [(N1, .cells (if D 29 then #[.int .i64 (A1 + m1), .int .i64 (A2 + m2)] else #[.int .i64 A1, .int .i64 A2]) 30), (gp, .cells #[.int .i64 p1, .int .i64 p2] 30)] _
          rw [H29.out]
          exact HW.out
         case hnp => rfl
         case hv => first | exact ⟨_, fun _ => rfl⟩ | exact ⟨undef, fun _ => rfl⟩
         iterate 2
          (apply obl_det
           case hrun =>
            intro D y wz hW hD R hR
            have HRR := Lib.hid hR
            clear hR
            try clear hn6
            try clear hnt5
            try clear hnl6
            try clear hnb
            try clear hk
            try clear ht
            try clear hpb
            try clear hgb
            have h29 : D 29 = false := hD.post _ 29 rfl (by kernel_rfl)
            rw [h29] at hW
            have H29 := Lib.hid h29
            clear h29
            have HW := Lib.hid hW
            clear hW hD
            go_wp2_with fail
            refine HRR.out _ ?_
            show Bs W1 [(N1, .cells (if D 29 then #[.int .i64 (A1 + m1), .int .i64 (A2 + m2)] else #[.int .i64 A1, .int .i64 A2]) 30), (gp, .cells #[.int .i64 p1, .int .i64 p2] 30)] _
            rw [H29.out]
            exact HW.out
           case hnp => rfl
           case hv => first | exact ⟨_, fun _ => rfl⟩ | exact ⟨undef, fun _ => rfl⟩)
         apply obl_det
         case hrun =>
          intro D y wz hW hD R hR
          have HRR := Lib.hid hR
          clear hR
          try clear hn6
          try clear hnt5
          try clear hnl6
          try clear hnb
          try clear hk
          try clear ht
          try clear hpb
          try clear hgb
          have h29 : D 29 = false := hD.post _ 29 rfl (by kernel_rfl)
          rw [h29] at hW
          have H29 := Lib.hid h29
          clear h29
          have HW := Lib.hid hW
          have HZ := Lib.hid (HB1.out.trans (HW.out.bel.mono HB1.out.size))
          have h2 := (HZ.out.cell (p := ⟨gb, go + i, none⟩) HGBB.out).trans HGC.out
          clear hW hD
          go_wp2_with fail
          refine HRR.out _ ?_
          show Bs W1 [(N1, .cells (if D 29 then #[.int .i64 (A1 + m1), .int .i64 (A2 + m2)] else #[.int .i64 A1, .int .i64 A2]) 30), (gp, .cells #[.int .i64 p1, .int .i64 p2] 30)] _
          rw [H29.out]
          exact HW.out
         case hnp => rfl
         case hv => first | exact ⟨_, fun _ => rfl⟩ | exact ⟨undef, fun _ => rfl⟩
         apply obl_det
         case hrun =>
          intro D y wz hW hD R hR
          have HRR := Lib.hid hR
          clear hR
          try clear hn6
          try clear hnt5
          try clear hnl6
          try clear hnb
          try clear hk
          try clear ht
          try clear hpb
          try clear hgb
          have h29 : D 29 = false := hD.post _ 29 rfl (by kernel_rfl)
          rw [h29] at hW
          have H29 := Lib.hid h29
          clear h29
          have HW := Lib.hid hW
          clear hW hD
          go_wp2_with fail
          refine HRR.out _ ?_
          show Bs W1 [(N1, .cells (if D 29 then #[.int .i64 (A1 + m1), .int .i64 (A2 + m2)] else #[.int .i64 A1, .int .i64 A2]) 30), (gp, .cells #[.int .i64 p1, .int .i64 p2] 30)] _
          rw [H29.out]
          exact HW.out
         case hnp => rfl
         case hv => first | exact ⟨_, fun _ => rfl⟩ | exact ⟨undef, fun _ => rfl⟩
         apply obl_det
         case hrun =>
          intro D y wz hW hD R hR
          have HRR := Lib.hid hR
          clear hR
          try clear hn6
          try clear hnt5
          try clear hnl6
          try clear hnb
          try clear hk
          try clear ht
          try clear hpb
          try clear hgb
          have h29 : D 29 = false := hD.post _ 29 rfl (by kernel_rfl)
          rw [h29] at hW
          have H29 := Lib.hid h29
          clear h29
          have HW := Lib.hid hW
          have hc0 := HW.out.cell 1 rfl 1
          clear hW hD
          go_wp2_with fail
          refine HRR.out _ ?_
          show Bs W1 [(N1, .cells (if D 29 then #[.int .i64 (A1 + m1), .int .i64 (A2 + m2)] else #[.int .i64 A1, .int .i64 A2]) 30), (gp, .cells #[.int .i64 p1, .int .i64 p2] 30)] _
          rw [H29.out]
          exact HW.out
         case hnp => rfl
         case hv => first | exact ⟨_, fun _ => rfl⟩ | exact ⟨undef, fun _ => rfl⟩
         apply obl_det
         case hrun =>
          intro D y wz hW hD R hR
          have HRR := Lib.hid hR
          clear hR
          try clear hn6
          try clear hnt5
          try clear hnl6
          try clear hnb
          try clear hk
          try clear ht
          try clear hpb
          try clear hgb
          have h29 : D 29 = false := hD.post _ 29 rfl (by kernel_rfl)
          rw [h29] at hW
          have H29 := Lib.hid h29
          clear h29
          have HW := Lib.hid hW
          clear hW hD
          go_wp2_with fail
          rw [HH2.out, HWP2.out]
          refine HRR.out _ ?_
          show Bs W1 [(N1, .cells (if D 29 then #[.int .i64 (A1 + m1), .int .i64 (A2 + m2)] else #[.int .i64 A1, .int .i64 A2]) 30), (gp, .cells #[.int .i64 p1, .int .i64 p2] 30)] _
          rw [H29.out]
          exact HW.out
         case hnp => rfl
         case hv => first | exact ⟨_, fun _ => rfl⟩ | exact ⟨undef, fun _ => rfl⟩
         iterate 2
          (apply obl_det
           case hrun =>
            intro D y wz hW hD R hR
            have HRR := Lib.hid hR
            clear hR
            try clear hn6
            try clear hnt5
            try clear hnl6
            try clear hnb
            try clear hk
            try clear ht
            try clear hpb
            try clear hgb
            have h29 : D 29 = false := hD.post _ 29 rfl (by kernel_rfl)
            rw [h29] at hW
            have H29 := Lib.hid h29
            clear h29
            have HW := Lib.hid hW
            clear hW hD
            go_wp2_with fail
            refine HRR.out _ ?_
            show Bs W1 [(N1, .cells (if D 29 then #[.int .i64 (A1 + m1), .int .i64 (A2 + m2)] else #[.int .i64 A1, .int .i64 A2]) 30), (gp, .cells #[.int .i64 p1, .int .i64 p2] 30)] _
            rw [H29.out]
            exact HW.out
           case hnp => rfl
           case hv => first | exact ⟨_, fun _ => rfl⟩ | exact ⟨undef, fun _ => rfl⟩)
         apply obl_det
         case hrun =>
          intro D y wz hW hD R hR
          have HRR := Lib.hid hR
          clear hR
          have h29 : D 29 = false := hD.not
          rw [h29] at hW
          have HW := Lib.hid hW
          clear hW hD h29
          refine wpList_store_bs rfl 30 _ _ rfl HW.out 0 _ #[.int .i64 (A1 + m1), .int .i64 (A2 + m2)] _ _ rfl rfl rfl info51 rfl (by simp [Value.oneCell']) ?_
          intro w4 hC4
          simp only [Act.put]
          go_simp
          exact HRR.out _ hC4
         case hnp => rfl
         case hv => first | exact ⟨_, fun _ => rfl⟩ | exact ⟨undef, fun _ => rfl⟩
         apply obl_nil
         intro D y w8 hall hW
         rw [hall 29 (by decide)] at hW
         have CN := Lib.hid (hW.sub [(N1, .cells #[.int .i64 (A1 + m1), .int .i64 (A2 + m2)] 30)] (by simp))
         clear hall hW
         have e1 : A1 + m1 = (midB s l k (i + 1) t).1 := by rw [HMI.out]
         have e2 : A2 + m2 = (midB s l k (i + 1) t).2 := by rw [HMI.out]
         rw [e1, e2] at CN
         clear e1 e2
         go_wp2_with fail
         refine ⟨⟨i + 1, by push_cast; rfl, by omega, CN.out⟩, ?_⟩
         simp [intOf]; omega
        ·obtain rfl : i = (l.getD k default).back.length := by omega
         rw [HME.out] at CI
         obtain ⟨Q, hQ⟩ : ∃ Q, micV s l k t = Q := ⟨_, rfl⟩
         have HSP : Hid (spCells ((List.range t).map (micV s l k)) ++ [.int .i64 Q.1, .int .i64 Q.2] = spCells ((List.range (t + 1)).map (micV s l k))) := by
          unfold Hid
          rw [List.range_succ, List.map_append]
          show _ = spCells (_ ++ [micV s l k t])
          rw [spCells_snoc, hQ]
         rw [hQ] at CI
         clear hQ
         obtain ⟨q1, q2⟩ := Q
         simp only at CI HSP
         obtain ⟨i0, hi0, hz0, hz1, hz2⟩ := info51'
         have HI0 := Lib.hid hi0
         have HZ0 := Lib.hid hz0
         have HZ1 := Lib.hid hz1
         have HZ2 := Lib.hid hz2
         clear hi0 hz0 hz1 hz2
         have HT1 := Lib.hid ((ownsRow.below HR.out CI.out.bel).alloc (.cells #[.int .i64 q1, .int .i64 q2] 30))
         have HNW2 := Lib.hid (heap_alloc_new wr (.cells #[.int .i64 q1, .int .i64 q2] 30))
         have HLE0 : Hid (N ≤ wr.heap.size) := Nat.le_trans HNt.out CI.out.bel.size
         have HLE1 : Hid (N ≤ (wr.alloc (.cells #[.int .i64 q1, .int .i64 q2] 30)).heap.size) := Nat.le_trans HLE0.out (ba_allocB wr _).size
         have HBn : Hid (Below N Wk (wr.alloc (.cells #[.int .i64 q1, .int .i64 q2] 30))) := (HBt.out.trans (CI.out.bel.mono HNt.out)).trans ((ba_allocB wr _).mono HLE0.out)
         have hc0 := CI.out.cell 0 rfl 0
         have hc1 := CI.out.cell 0 rfl 1
         go_wp2_with (at_builtin; refine wpList_append_own _ rfl _ _ 49 rfl N 30 i0 (.agg #[.int .i64 0, .int .i64 0]) 2 16 Tryz.underlying49 HI0.out HZ0.out HZ1.out HZ2.out rfl (by decide) _ _ _ rfl HT1.out ⟨wr.heap.size, 0, none⟩ 1 1 [.int .i64 q1, .int .i64 q2] rfl rfl (cell_news _ _ _ _ HNW2.out) (two_ints _ _) (by unfold maxLen; omega) (by omega) HLE1.out ?_; intro v' w12 hown12 hgrow12 _; have HBZ := Lib.hid (HBn.out.trans (grown_below HT1.out hgrow12 (Nat.le_refl _) HLE1.out)); have HLE2 : Hid (N ≤ w12.heap.size) := Nat.le_trans HLE1.out (grown_below HT1.out hgrow12 (Nat.le_refl _) HLE1.out).size; have HTN := Lib.hid hown12; rw [HSP.out] at HTN; clear hown12 hgrow12 hc0 hc1 hr0 HT1 HNW2)
         refine ⟨⟨t + 1, _, rfl, by push_cast; rfl, by omega, HBZ.out, HLE2.out, HTN.out⟩, ?_⟩
         simp [intOf]; omega
    ·obtain rfl : t = s.things.length := by omega
     obtain ⟨ra, rc, rfl⟩ := ownsRow_slice HR.out
     have HTK : Hid (OwnTable B W1 (.slice tva k tvc) k us (fun i => (rangesV s l).getD i [])) := OwnTable.call HT.out (by rw [HNW.out]; exact HBt.out)
     have HU : Hid (OwnSpans B W1 (.slice ra s.things.length rc) ((rangesV s l).getD k [])) := by
      unfold Hid OwnSpans
      rw [HROW.out]
      have h := ownsRow.le HR.out HBN.out
      simpa using h
     have HLB : Hid (B ≤ W1.heap.size) := Nat.le_trans HBN.out HNt.out
     obtain ⟨i0, hi0, hz0, hz1, hz2⟩ := info54'
     have HI0 := Lib.hid hi0
     have HZ0 := Lib.hid hz0
     have HZ1 := Lib.hid hz1
     have HZ2 := Lib.hid hz2
     clear hi0 hz0 hz1 hz2
     have HT1 := Lib.hid (OwnTable.call HTK.out (ba_allocB W1 (.cells #[.slice ra s.things.length rc] 49)))
     have HU1 := Lib.hid (ownsRow.below HU.out (ba_allocB W1 (.cells #[.slice ra s.things.length rc] 49)))
     have HNW2 := Lib.hid (heap_alloc_new W1 (.cells #[.slice ra s.things.length rc] 49))
     have HLE1 : Hid (B ≤ (W1.alloc (.cells #[.slice ra s.things.length rc] 49)).heap.size) := Nat.le_trans HLB.out (ba_allocB W1 _).size
     have HBn : Hid (Below B W0 (W1.alloc (.cells #[.slice ra s.things.length rc] 49))) := HBS1.out.trans ((ba_allocB W1 _).mono HLB.out)
     go_wp2_with (at_builtin; refine wpList_append_own _ rfl _ _ 94 rfl B 49 i0 (.slice none 0 0) 1 24 Tryz.underlying94 HI0.out HZ0.out HZ1.out HZ2.out rfl (by decide) _ _ _ rfl HT1.out.row ⟨W1.heap.size, 0, none⟩ 1 1 [.slice ra s.things.length rc] rfl rfl (cell_news _ _ _ _ HNW2.out) (one_of _ rfl) (by unfold maxLen; omega) (by omega) HLE1.out ?_; intro v' w12 hown12 hgrow12 _; have HBZ := Lib.hid (HBn.out.trans (grown_below HT1.out.row hgrow12 (Nat.le_refl _) HLE1.out)); have HLE2 : Hid (B ≤ w12.heap.size) := Nat.le_trans HLE1.out (grown_below HT1.out.row hgrow12 (Nat.le_refl _) HLE1.out).size; have HTN := Lib.hid (OwnTable.more HT1.out HU1.out hown12 hgrow12); clear hown12 hgrow12 hcb0 HT1 HNW2)
     refine ⟨⟨k + 1, _, _, rfl, by push_cast; rfl, by omega, HBZ.out, HLE2.out, HTN.out⟩, ?_⟩
     simp [intOf]; omega
  ·obtain rfl : k = l.length := by omega
   have HTF : Hid (OwnTable w.heap.size Wk tv l.length us (fun i => (rangesV s l).getD i [])) := ⟨HT.out.len, ownsRow.le HT.out.row (Nat.le_of_lt HLT.out), fun i hi => ownsRow.le (HT.out.each i hi) (Nat.le_of_lt HLT.out)⟩
   go_wp2_with fail
   go_ret
   exact ⟨_, _, rfl, HTF.out, HBA.out⟩
end Go.Proofs.YteebihcdgpfldaaGreat
