/- wick.named at wicks and waxes. -/
import Derived.Test.YtpkggjobdmchlaaGreatDoorU1
namespace Go.Proofs.YtpkggjobdmchlaaGreatDoor
open Go.RowKit
theorem infoWick : (Tryz.prog.info? 136).map (·.size) = some 4 := by kernel_rfl
theorem infoWax : (Tryz.prog.info? 102).map (·.size) = some 8 := by kernel_rfl
theorem infoStr : (Tryz.prog.info? 9).map (·.size) = some 1 := by kernel_rfl
/-- A cell is laid among calls, and stored. -/
structure NmW (W0 : World) (v : Value) (d6 d7 : Bool) (y : Value) (w : World) : Prop where
  bel : Below W0.heap.size W0 w
  p : d6 = true → ∃ g, y = .pointer (some ⟨g, 0, none⟩) ∧ W0.heap.size ≤ g ∧ w.heap[g]? = some (.cells #[if d7 = true then v else .string ByteArray.empty] 9)
theorem NmW.next {W0 w w' : World} {v y : Value} {d6 d7 : Bool} (h : NmW W0 v d6 d7 y w) (hb : Below w.heap.size w w') : NmW W0 v d6 d7 y w' :=
  ⟨h.bel.trans (hb.mono h.bel.size), fun e => by
    obtain ⟨g, e1, e2, e3⟩ := h.p e
    exact ⟨g, e1, e2, block_keep e3 hb⟩⟩
theorem Bs.snocU {w W : World} {l : List (Nat × Obj)} (h : Bs w l W) {b : Nat} {o : Obj} (hl : ∀ p ∈ l, p.1 < b) (hb : W.heap[b]? = some o) (hw : w.heap.size ≤ b) : Bs w (l ++ [(b, o)]) W := by
  refine ⟨?_, ?_, ?_, h.bel⟩
  · intro p hp
    rcases List.mem_append.1 hp with hp | hp
    · exact h.get' p hp
    · simp only [List.mem_singleton] at hp
      subst hp
      exact hb
  · rw [List.map_append, List.pairwise_append]
    refine ⟨h.inc, by simp, ?_⟩
    intro a ha b' hb'
    simp only [List.mem_map] at ha hb'
    obtain ⟨p, hp, rfl⟩ := ha
    obtain ⟨q, hq, rfl⟩ := hb'
    simp only [List.mem_singleton] at hq
    subst hq
    exact hl p hp
  · intro p hp
    rcases List.mem_append.1 hp with hp | hp
    · exact h.ge p hp
    · simp only [List.mem_singleton] at hp
      subst hp
      exact hw
theorem nameWick_any (x : Wick) (w : World) : Calls Tryz.prog 108 #[.agg #[.string x.name, .int .i64 x.threads, .int .i64 x.pull.1, .int .i64 x.pull.2]] w fun e w' => e = .returned (.string x.name) ∧ Below w.heap.size w w' := by
  have hb := (Below.refl w.heap.size w).alloc (Nat.le_refl _) (.cells #[.string x.name, .int .i64 x.threads, .int .i64 x.pull.1, .int .i64 x.pull.2] 136)
  go_enter Tryz.func108, Tryz.ntmps108
  go_wp2
  go_ret
  exact ⟨rfl, hb⟩
set_option maxRecDepth 100000 in
theorem sameWick_r (r : Bool) (x : Wick) (nm : ByteArray) (b3 b6 : Nat) (w : World) (h3 : w.cell? ⟨b3, 0, none⟩ = some (.func (.func 108) #[] #[])) (h6 : w.cell? ⟨b6, 0, none⟩ = some (.string nm)) (l3 : b3 < w.heap.size) (l6 : b6 < w.heap.size) (hr : sameN nm x.name = r) :
    Calls Tryz.prog 127 #[.agg #[.string x.name, .int .i64 x.threads, .int .i64 x.pull.1, .int .i64 x.pull.2], .pointer (some ⟨b3, 0, none⟩), .pointer (some ⟨b6, 0, none⟩)] w fun e w' => e = .returned (.bool r) ∧ Below w.heap.size w w' := by
  have HR := Lib.hid hr
  have H3 := Lib.hid h3
  have H6 := Lib.hid h6
  have C0 : Hid (Bs w [(w.heap.size, .cells #[.string x.name, .int .i64 x.threads, .int .i64 x.pull.1, .int .i64 x.pull.2] 136)] _) := (Bs.nil w).push _ rfl (.cells #[.string x.name, .int .i64 x.threads, .int .i64 x.pull.1, .int .i64 x.pull.2] 136)
  clear hr h3 h6
  go_enter Tryz.func127, Tryz.ntmps127
  go_wp2_with fail
  generalize w.alloc (.cells #[.string x.name, .int .i64 x.threads, .int .i64 x.pull.1, .int .i64 x.pull.2] 136) = w0 at *
  refine wp_region_inv0 (by kernel_rfl) (by kernel_rfl) (fun D w' => Below w0.heap.size w0 w') (Below.refl _ _).drew ?_
  apply obl_det
  case hrun =>
    intro D y wz hW hD R hR
    have HRR := Lib.hid hR
    clear hR
    have HW := Lib.hid hW
    have HZ := Lib.hid (C0.out.bel.trans (HW.out.mono C0.out.bel.size))
    have h1 := (HZ.out.cell (p := ⟨b3, 0, none⟩) l3).trans H3.out
    clear hW hD
    go_wp2_with fail
    exact HRR.out _ HW.out
  case hnp => rfl
  case hv => first | exact ⟨_, fun _ => rfl⟩ | exact ⟨undef, fun _ => rfl⟩
  apply obl_det
  case hrun =>
    intro D y wz hW hD R hR
    have HRR := Lib.hid hR
    clear hR
    have HW := Lib.hid hW
    have hg := (C0.out.call HW.out).get 0 rfl
    clear hW hD
    refine wpList_load_row rfl 136 _ rfl _ rfl _ _ _ _ hg Tryz.underlying136 rfl infoWick ?_
    go_simp
    exact HRR.out _ HW.out
  case hnp => rfl
  case hv => first | exact ⟨_, fun _ => rfl⟩ | exact ⟨undef, fun _ => rfl⟩
  apply obl_det
  case hrun =>
    intro D y wz hW hD R hR
    have HRR := Lib.hid hR
    clear hR
    have HW := Lib.hid hW
    clear hW hD
    go_wp2_with fail
    refine (nameWick_any x _).mono ?_
    rintro e w' ⟨rfl, hb⟩
    have HW2 := Lib.hid (HW.out.trans (hb.mono HW.out.size))
    clear hb
    go_wp2_with fail
    exact HRR.out _ HW2.out
  case hnp => rfl
  case hv => first | exact ⟨_, fun _ => rfl⟩ | exact ⟨undef, fun _ => rfl⟩
  apply obl_det
  case hrun =>
    intro D y wz hW hD R hR
    have HRR := Lib.hid hR
    clear hR
    have HW := Lib.hid hW
    have HZ := Lib.hid (C0.out.bel.trans (HW.out.mono C0.out.bel.size))
    have h1 := (HZ.out.cell (p := ⟨b6, 0, none⟩) l6).trans H6.out
    clear hW hD
    go_wp2_with fail
    exact HRR.out _ HW.out
  case hnp => rfl
  case hv => first | exact ⟨_, fun _ => rfl⟩ | exact ⟨undef, fun _ => rfl⟩
  apply obl_det
  case hrun =>
    intro D y wz hW hD R hR
    have HRR := Lib.hid hR
    clear hR
    have HW := Lib.hid hW
    clear hW hD
    go_wp2_with fail
    try rw [show (x.name.toList == nm.toList) = r from HR.out]
    exact HRR.out _ HW.out
  case hnp => rfl
  case hv => first | exact ⟨_, fun _ => rfl⟩ | exact ⟨undef, fun _ => rfl⟩
  apply obl_det
  case hrun =>
    intro D y wz hW hD R hR
    have HRR := Lib.hid hR
    clear hR
    have HW := Lib.hid hW
    clear hW hD
    go_wp2_with fail
    exact HRR.out _ HW.out
  case hnp => rfl
  case hv => first | exact ⟨_, fun _ => rfl⟩ | exact ⟨undef, fun _ => rfl⟩
  apply obl_nil
  intro D y' w8 hall hW
  have HB := Lib.hid (C0.out.bel.trans (hW.mono C0.out.bel.size))
  clear hall hW
  go_wp2_with fail
  go_ret
  exact ⟨rfl, HB.out⟩
set_option maxRecDepth 100000 in
set_option maxHeartbeats 4000000 in
/-- wick.named where the name is one, and no other thing's ahead of it. -/
theorem namedWick_ok (l : List Wick) (k : Nat) (hk : l.length = k + 1) (hlen : l.length ≤ 1000) (hn : nameB (l.getD k default).name = true) (ht : (l.take k).any (fun y => sameN (l.getD k default).name y.name) = false) (a : Option Addr) (c : Nat) (w : World) (hv : WicksIn w.heap.size w (.slice a (k + 1) c) l) :
    Calls Tryz.prog 107 #[.slice a (k + 1) c, .func (.func 108) #[] #[]] w fun e w' => e = .returned (.int .i64 0) ∧ Below w.heap.size w w' := by
  have HN := Lib.hid hn
  have HT := Lib.hid ht
  have HTK := Lib.hid (hv.take k (by omega))
  have hcap : k + 1 ≤ c := by obtain ⟨a', c', e, h1, h2, -⟩ := hv; simp only [Value.slice.injEq] at e; omega
  have hk9 : k ≤ 1000 := by omega
  obtain ⟨b, o, rfl, hbl, hc1, hc2, hc3, hc4, hsz⟩ := hv.at' (i := k) (by omega)
  have HC1 : Hid (w.cell? ⟨b, o + k * 4, none⟩ = some (.string (l.getD k default).name)) := hc1
  have HC2 : Hid (w.cell? ⟨b, o + k * 4 + 1, none⟩ = some (.int .i64 (l.getD k default).threads)) := hc2
  have HC3 : Hid (w.cell? ⟨b, o + k * 4 + 2, none⟩ = some (.int .i64 (l.getD k default).pull.1)) := hc3
  have HC4 : Hid (w.cell? ⟨b, o + k * 4 + 3, none⟩ = some (.int .i64 (l.getD k default).pull.2)) := hc4
  have HBL := Lib.hid hbl
  have HLT : Hid ((l.take k).length = k) := by unfold Hid; rw [List.length_take]; omega
  generalize l.take k = tk at *
  generalize l.getD k default = x at *
  clear hv hn ht hc1 hc2 hc3 hc4 hbl hk
  have C0 : Hid (Bs w [(w.heap.size, .cells #[.func (.func 108) #[] #[]] 187)] _) := (Bs.nil w).push _ rfl (.cells #[.func (.func 108) #[] #[]] 187)
  go_enter Tryz.func107, Tryz.ntmps107
  go_wp2_with fail
  generalize w.alloc (.cells #[.func (.func 108) #[] #[]] 187) = W1 at *
  have HWB := Lib.hid C0.out.bel
  refine wp_region_inv1 (by kernel_rfl) (by kernel_rfl) [6] (fun D y w' => NmW W1 (.string x.name) (D 6) (D 7) (y 6) w') ⟨(Below.refl _ _).drew, fun h => (by cases h)⟩ ?FP ?hFP ?_
  case hFP =>
    intro y
    simp only [fill, List.foldl, Act.put, List.setIfInBounds_toArray, List.set]
    exact rfl
  apply obl_det
  case hrun =>
    intro D y wz hW hD R hR
    have HRR := Lib.hid hR
    clear hR
    have HW := Lib.hid hW
    have h1 := (C0.out.call HW.out.bel).cell 0 rfl 0
    clear hW hD
    go_wp2_with fail
    exact HRR.out _ ⟨HW.out.bel, HW.out.p⟩
  case hnp => rfl
  case hv => first | exact ⟨_, fun _ => rfl⟩ | exact ⟨undef, fun _ => rfl⟩
  apply obl_det
  case hrun =>
    intro D y wz hW hD R hR
    have HRR := Lib.hid hR
    clear hR
    have HW := Lib.hid hW
    clear hW hD
    go_wp2_with fail
    exact HRR.out _ ⟨HW.out.bel, HW.out.p⟩
  case hnp => rfl
  case hv => first | exact ⟨_, fun _ => rfl⟩ | exact ⟨undef, fun _ => rfl⟩
  apply obl_det
  case hrun =>
    intro D y wz hW hD R hR
    have HRR := Lib.hid hR
    clear hR
    have HW := Lib.hid hW
    clear hW hD
    go_wp2_with fail
    exact HRR.out _ ⟨HW.out.bel, HW.out.p⟩
  case hnp => rfl
  case hv => first | exact ⟨_, fun _ => rfl⟩ | exact ⟨undef, fun _ => rfl⟩
  apply obl_det
  case hrun =>
    intro D y wz hW hD R hR
    have HRR := Lib.hid hR
    clear hR
    have HW := Lib.hid hW
    clear hW hD
    go_wp2_with fail
    exact HRR.out _ ⟨HW.out.bel, HW.out.p⟩
  case hnp => rfl
  case hv => first | exact ⟨_, fun _ => rfl⟩ | exact ⟨undef, fun _ => rfl⟩
  apply obl_det
  case hrun =>
    intro D y wz hW hD R hR
    have HRR := Lib.hid hR
    clear hR
    have HW := Lib.hid hW
    have HZ := Lib.hid (HWB.out.trans (HW.out.bel.mono HWB.out.size))
    have h1 := (HZ.out.cell (p := ⟨b, o + k * 4, none⟩) HBL.out).trans HC1.out
    have h2 := (HZ.out.cell (p := ⟨b, o + k * 4 + 1, none⟩) HBL.out).trans HC2.out
    have h3 := (HZ.out.cell (p := ⟨b, o + k * 4 + 2, none⟩) HBL.out).trans HC3.out
    have h4 := (HZ.out.cell (p := ⟨b, o + k * 4 + 3, none⟩) HBL.out).trans HC4.out
    clear hW hD
    go_wp2_with fail
    exact HRR.out _ ⟨HW.out.bel, HW.out.p⟩
  case hnp => rfl
  case hv => first | exact ⟨_, fun _ => rfl⟩ | exact ⟨undef, fun _ => rfl⟩
  apply obl_det
  case hrun =>
    intro D y wz hW hD R hR
    have HRR := Lib.hid hR
    clear hR
    have HW := Lib.hid hW
    clear hW hD
    go_wp2_with fail
    refine (nameWick_any x _).mono ?_
    rintro e w' ⟨rfl, hb⟩
    have HW2 := Lib.hid (NmW.next HW.out hb)
    clear hb
    go_wp2_with fail
    exact HRR.out _ ⟨HW2.out.bel, HW2.out.p⟩
  case hnp => rfl
  case hv => first | exact ⟨_, fun _ => rfl⟩ | exact ⟨undef, fun _ => rfl⟩
  apply obl_priv 6
  case hd => rfl
  case hp => rfl
  case hrun =>
    intro D y wz hW hD R hR
    have HRR := Lib.hid hR
    clear hR
    have h7 : D 7 = false := hD.post _ 7 rfl (by kernel_rfl)
    have HBS := Lib.hid hW.bel
    have H7 := Lib.hid h7
    clear hW hD h7
    go_wp2_with fail
    refine HRR.out (.pointer (some ⟨wz.heap.size, 0, none⟩)) _ ⟨HBS.out.alloc HBS.out.size _, fun _ => ⟨_, rfl, HBS.out.size, ?_⟩⟩
    show _ = some (Obj.cells #[if D 7 = true then _ else _] _)
    rw [H7.out]
    exact heap_alloc_new _ _
  apply obl_det
  case hrun =>
    intro D y wz hW hD R hR
    have HRR := Lib.hid hR
    clear hR
    have h7 : D 7 = false := hD.not
    obtain ⟨gp, e, hgt, hcell⟩ := hW.p (hD.pre _ 6 rfl (by kernel_rfl))
    rw [h7] at hcell
    have CC := Lib.hid (Bs.snocU (l := []) (w := W1) ⟨by simp, by simp, by simp, hW.bel⟩ (by simp) hcell hgt)
    have E := Lib.hid e
    have HGT := Lib.hid hgt
    clear hW hD h7 hcell e hgt
    refine wpList_cell_bs rfl 9 _ _ rfl CC.out 0 gp 0 _ _ rfl E.out (.string x.name) rfl (by simp) rfl infoStr ?_
    intro w4 hC4
    simp only [Act.put]
    go_simp
    exact HRR.out _ ⟨hC4.bel, fun _ => ⟨gp, E.out, HGT.out, hC4.get 0 rfl⟩⟩
  case hnp => rfl
  case hv => first | exact ⟨_, fun _ => rfl⟩ | exact ⟨undef, fun _ => rfl⟩
  apply obl_nil
  intro D y w8 hall hW
  obtain ⟨gp, e, hgt, hcell⟩ := hW.p (hall 6 (by decide))
  rw [hall 7 (by decide)] at hcell
  simp only [if_true] at hcell
  have HCE := Lib.hid hcell
  have C2 := Lib.hid (C0.out.call hW.bel)
  have HGT := Lib.hid (Nat.lt_of_lt_of_le (C0.out.lt 0 rfl) hgt)
  clear hW hall hcell hgt C0 HWB HC1 HC2 HC3 HC4
  rw [e]
  clear e
  have h6 := cell_of_row _ _ 0 _ _ _ HCE.out
  go_wp2_with fail
  refine (name_r true x.name _ hsz HN.out).mono ?_
  rintro e w9 ⟨rfl, hb⟩
  have C3 := Lib.hid (C2.out.call hb)
  have HCF := Lib.hid (block_keep HCE.out hb)
  clear hb h6 C2 HCE
  go_wp2_with fail
  have HG := Lib.hid (block_lt HCF.out)
  have HSL := Lib.hid ((HTK.out.below C3.out.bel).mono C3.out.bel.size)
  have HX := Lib.hid (hasWick_any (some ⟨w.heap.size, 0, none⟩) (some ⟨gp, 0, none⟩) false tk (fun y => sameN x.name y.name) _ w9 HSL.out (fun k' W _ hW => sameWick_r _ _ x.name _ _ W ((hW.cell (p := ⟨w.heap.size, 0, none⟩) (C3.out.lt 0 rfl)).trans (C3.out.cell 0 rfl 0)) ((hW.cell (p := ⟨gp, 0, none⟩) HG.out).trans (cell_of_row _ _ 0 _ _ _ HCF.out)) (Nat.lt_of_lt_of_le (C3.out.lt 0 rfl) hW.size) (Nat.lt_of_lt_of_le HG.out hW.size) rfl) HT.out)
  refine HX.out.mono ?_
  rintro e w10 ⟨rfl, hb⟩
  have C4 := Lib.hid (C3.out.call hb)
  clear hb C3 HCF
  go_wp2_with fail
  go_ret
  exact ⟨rfl, C4.out.bel⟩
theorem nameWax_any (x : Wax) (w : World) : Calls Tryz.prog 110 #[.agg #[.string x.name, .int .i64 x.flow.1, .int .i64 x.flow.2, .int .i64 x.rise.1, .int .i64 x.rise.2, .int .i64 x.spread.1, .int .i64 x.spread.2, .int .i64 x.chill]] w fun e w' => e = .returned (.string x.name) ∧ Below w.heap.size w w' := by
  have hb := (Below.refl w.heap.size w).alloc (Nat.le_refl _) (.cells #[.string x.name, .int .i64 x.flow.1, .int .i64 x.flow.2, .int .i64 x.rise.1, .int .i64 x.rise.2, .int .i64 x.spread.1, .int .i64 x.spread.2, .int .i64 x.chill] 102)
  go_enter Tryz.func110, Tryz.ntmps110
  go_wp2
  go_ret
  exact ⟨rfl, hb⟩
set_option maxRecDepth 100000 in
theorem sameWax_r (r : Bool) (x : Wax) (nm : ByteArray) (b3 b6 : Nat) (w : World) (h3 : w.cell? ⟨b3, 0, none⟩ = some (.func (.func 110) #[] #[])) (h6 : w.cell? ⟨b6, 0, none⟩ = some (.string nm)) (l3 : b3 < w.heap.size) (l6 : b6 < w.heap.size) (hr : sameN nm x.name = r) :
    Calls Tryz.prog 129 #[.agg #[.string x.name, .int .i64 x.flow.1, .int .i64 x.flow.2, .int .i64 x.rise.1, .int .i64 x.rise.2, .int .i64 x.spread.1, .int .i64 x.spread.2, .int .i64 x.chill], .pointer (some ⟨b3, 0, none⟩), .pointer (some ⟨b6, 0, none⟩)] w fun e w' => e = .returned (.bool r) ∧ Below w.heap.size w w' := by
  have HR := Lib.hid hr
  have H3 := Lib.hid h3
  have H6 := Lib.hid h6
  have C0 : Hid (Bs w [(w.heap.size, .cells #[.string x.name, .int .i64 x.flow.1, .int .i64 x.flow.2, .int .i64 x.rise.1, .int .i64 x.rise.2, .int .i64 x.spread.1, .int .i64 x.spread.2, .int .i64 x.chill] 102)] _) := (Bs.nil w).push _ rfl (.cells #[.string x.name, .int .i64 x.flow.1, .int .i64 x.flow.2, .int .i64 x.rise.1, .int .i64 x.rise.2, .int .i64 x.spread.1, .int .i64 x.spread.2, .int .i64 x.chill] 102)
  clear hr h3 h6
  go_enter Tryz.func129, Tryz.ntmps129
  go_wp2_with fail
  generalize w.alloc (.cells #[.string x.name, .int .i64 x.flow.1, .int .i64 x.flow.2, .int .i64 x.rise.1, .int .i64 x.rise.2, .int .i64 x.spread.1, .int .i64 x.spread.2, .int .i64 x.chill] 102) = w0 at *
  refine wp_region_inv0 (by kernel_rfl) (by kernel_rfl) (fun D w' => Below w0.heap.size w0 w') (Below.refl _ _).drew ?_
  apply obl_det
  case hrun =>
    intro D y wz hW hD R hR
    have HRR := Lib.hid hR
    clear hR
    have HW := Lib.hid hW
    have HZ := Lib.hid (C0.out.bel.trans (HW.out.mono C0.out.bel.size))
    have h1 := (HZ.out.cell (p := ⟨b3, 0, none⟩) l3).trans H3.out
    clear hW hD
    go_wp2_with fail
    exact HRR.out _ HW.out
  case hnp => rfl
  case hv => first | exact ⟨_, fun _ => rfl⟩ | exact ⟨undef, fun _ => rfl⟩
  apply obl_det
  case hrun =>
    intro D y wz hW hD R hR
    have HRR := Lib.hid hR
    clear hR
    have HW := Lib.hid hW
    have hg := (C0.out.call HW.out).get 0 rfl
    clear hW hD
    refine wpList_load_row rfl 102 _ rfl _ rfl _ _ _ _ hg Tryz.underlying102 rfl infoWax ?_
    go_simp
    exact HRR.out _ HW.out
  case hnp => rfl
  case hv => first | exact ⟨_, fun _ => rfl⟩ | exact ⟨undef, fun _ => rfl⟩
  apply obl_det
  case hrun =>
    intro D y wz hW hD R hR
    have HRR := Lib.hid hR
    clear hR
    have HW := Lib.hid hW
    clear hW hD
    go_wp2_with fail
    refine (nameWax_any x _).mono ?_
    rintro e w' ⟨rfl, hb⟩
    have HW2 := Lib.hid (HW.out.trans (hb.mono HW.out.size))
    clear hb
    go_wp2_with fail
    exact HRR.out _ HW2.out
  case hnp => rfl
  case hv => first | exact ⟨_, fun _ => rfl⟩ | exact ⟨undef, fun _ => rfl⟩
  apply obl_det
  case hrun =>
    intro D y wz hW hD R hR
    have HRR := Lib.hid hR
    clear hR
    have HW := Lib.hid hW
    have HZ := Lib.hid (C0.out.bel.trans (HW.out.mono C0.out.bel.size))
    have h1 := (HZ.out.cell (p := ⟨b6, 0, none⟩) l6).trans H6.out
    clear hW hD
    go_wp2_with fail
    exact HRR.out _ HW.out
  case hnp => rfl
  case hv => first | exact ⟨_, fun _ => rfl⟩ | exact ⟨undef, fun _ => rfl⟩
  apply obl_det
  case hrun =>
    intro D y wz hW hD R hR
    have HRR := Lib.hid hR
    clear hR
    have HW := Lib.hid hW
    clear hW hD
    go_wp2_with fail
    try rw [show (x.name.toList == nm.toList) = r from HR.out]
    exact HRR.out _ HW.out
  case hnp => rfl
  case hv => first | exact ⟨_, fun _ => rfl⟩ | exact ⟨undef, fun _ => rfl⟩
  apply obl_det
  case hrun =>
    intro D y wz hW hD R hR
    have HRR := Lib.hid hR
    clear hR
    have HW := Lib.hid hW
    clear hW hD
    go_wp2_with fail
    exact HRR.out _ HW.out
  case hnp => rfl
  case hv => first | exact ⟨_, fun _ => rfl⟩ | exact ⟨undef, fun _ => rfl⟩
  apply obl_nil
  intro D y' w8 hall hW
  have HB := Lib.hid (C0.out.bel.trans (hW.mono C0.out.bel.size))
  clear hall hW
  go_wp2_with fail
  go_ret
  exact ⟨rfl, HB.out⟩
set_option maxRecDepth 100000 in
set_option maxHeartbeats 4000000 in
/-- wick.named where the name is one, and no other thing's ahead of it. -/
theorem namedWax_ok (l : List Wax) (k : Nat) (hk : l.length = k + 1) (hlen : l.length ≤ 1000) (hn : nameB (l.getD k default).name = true) (ht : (l.take k).any (fun y => sameN (l.getD k default).name y.name) = false) (a : Option Addr) (c : Nat) (w : World) (hv : WaxesIn w.heap.size w (.slice a (k + 1) c) l) :
    Calls Tryz.prog 109 #[.slice a (k + 1) c, .func (.func 110) #[] #[]] w fun e w' => e = .returned (.int .i64 0) ∧ Below w.heap.size w w' := by
  have HN := Lib.hid hn
  have HT := Lib.hid ht
  have HTK := Lib.hid (hv.take k (by omega))
  have hcap : k + 1 ≤ c := by obtain ⟨a', c', e, h1, h2, -⟩ := hv; simp only [Value.slice.injEq] at e; omega
  have hk9 : k ≤ 1000 := by omega
  obtain ⟨b, o, rfl, hbl, hc1, hc2, hc3, hc4, hc5, hc6, hc7, hc8, hsz⟩ := hv.at' (i := k) (by omega)
  have HC1 : Hid (w.cell? ⟨b, o + k * 8, none⟩ = some (.string (l.getD k default).name)) := hc1
  have HC2 : Hid (w.cell? ⟨b, o + k * 8 + 1, none⟩ = some (.int .i64 (l.getD k default).flow.1)) := hc2
  have HC3 : Hid (w.cell? ⟨b, o + k * 8 + 2, none⟩ = some (.int .i64 (l.getD k default).flow.2)) := hc3
  have HC4 : Hid (w.cell? ⟨b, o + k * 8 + 3, none⟩ = some (.int .i64 (l.getD k default).rise.1)) := hc4
  have HC5 : Hid (w.cell? ⟨b, o + k * 8 + 4, none⟩ = some (.int .i64 (l.getD k default).rise.2)) := hc5
  have HC6 : Hid (w.cell? ⟨b, o + k * 8 + 5, none⟩ = some (.int .i64 (l.getD k default).spread.1)) := hc6
  have HC7 : Hid (w.cell? ⟨b, o + k * 8 + 6, none⟩ = some (.int .i64 (l.getD k default).spread.2)) := hc7
  have HC8 : Hid (w.cell? ⟨b, o + k * 8 + 7, none⟩ = some (.int .i64 (l.getD k default).chill)) := hc8
  have HBL := Lib.hid hbl
  have HLT : Hid ((l.take k).length = k) := by unfold Hid; rw [List.length_take]; omega
  generalize l.take k = tk at *
  generalize l.getD k default = x at *
  clear hv hn ht hc1 hc2 hc3 hc4 hc5 hc6 hc7 hc8 hbl hk
  have C0 : Hid (Bs w [(w.heap.size, .cells #[.func (.func 110) #[] #[]] 189)] _) := (Bs.nil w).push _ rfl (.cells #[.func (.func 110) #[] #[]] 189)
  go_enter Tryz.func109, Tryz.ntmps109
  go_wp2_with fail
  generalize w.alloc (.cells #[.func (.func 110) #[] #[]] 189) = W1 at *
  have HWB := Lib.hid C0.out.bel
  refine wp_region_inv1 (by kernel_rfl) (by kernel_rfl) [6] (fun D y w' => NmW W1 (.string x.name) (D 6) (D 7) (y 6) w') ⟨(Below.refl _ _).drew, fun h => (by cases h)⟩ ?FP ?hFP ?_
  case hFP =>
    intro y
    simp only [fill, List.foldl, Act.put, List.setIfInBounds_toArray, List.set]
    exact rfl
  apply obl_det
  case hrun =>
    intro D y wz hW hD R hR
    have HRR := Lib.hid hR
    clear hR
    have HW := Lib.hid hW
    have h1 := (C0.out.call HW.out.bel).cell 0 rfl 0
    clear hW hD
    go_wp2_with fail
    exact HRR.out _ ⟨HW.out.bel, HW.out.p⟩
  case hnp => rfl
  case hv => first | exact ⟨_, fun _ => rfl⟩ | exact ⟨undef, fun _ => rfl⟩
  apply obl_det
  case hrun =>
    intro D y wz hW hD R hR
    have HRR := Lib.hid hR
    clear hR
    have HW := Lib.hid hW
    clear hW hD
    go_wp2_with fail
    exact HRR.out _ ⟨HW.out.bel, HW.out.p⟩
  case hnp => rfl
  case hv => first | exact ⟨_, fun _ => rfl⟩ | exact ⟨undef, fun _ => rfl⟩
  apply obl_det
  case hrun =>
    intro D y wz hW hD R hR
    have HRR := Lib.hid hR
    clear hR
    have HW := Lib.hid hW
    clear hW hD
    go_wp2_with fail
    exact HRR.out _ ⟨HW.out.bel, HW.out.p⟩
  case hnp => rfl
  case hv => first | exact ⟨_, fun _ => rfl⟩ | exact ⟨undef, fun _ => rfl⟩
  apply obl_det
  case hrun =>
    intro D y wz hW hD R hR
    have HRR := Lib.hid hR
    clear hR
    have HW := Lib.hid hW
    clear hW hD
    go_wp2_with fail
    exact HRR.out _ ⟨HW.out.bel, HW.out.p⟩
  case hnp => rfl
  case hv => first | exact ⟨_, fun _ => rfl⟩ | exact ⟨undef, fun _ => rfl⟩
  apply obl_det
  case hrun =>
    intro D y wz hW hD R hR
    have HRR := Lib.hid hR
    clear hR
    have HW := Lib.hid hW
    have HZ := Lib.hid (HWB.out.trans (HW.out.bel.mono HWB.out.size))
    have h1 := (HZ.out.cell (p := ⟨b, o + k * 8, none⟩) HBL.out).trans HC1.out
    have h2 := (HZ.out.cell (p := ⟨b, o + k * 8 + 1, none⟩) HBL.out).trans HC2.out
    have h3 := (HZ.out.cell (p := ⟨b, o + k * 8 + 2, none⟩) HBL.out).trans HC3.out
    have h4 := (HZ.out.cell (p := ⟨b, o + k * 8 + 3, none⟩) HBL.out).trans HC4.out
    have h5 := (HZ.out.cell (p := ⟨b, o + k * 8 + 4, none⟩) HBL.out).trans HC5.out
    have h6 := (HZ.out.cell (p := ⟨b, o + k * 8 + 5, none⟩) HBL.out).trans HC6.out
    have h7 := (HZ.out.cell (p := ⟨b, o + k * 8 + 6, none⟩) HBL.out).trans HC7.out
    have h8 := (HZ.out.cell (p := ⟨b, o + k * 8 + 7, none⟩) HBL.out).trans HC8.out
    clear hW hD
    go_wp2_with fail
    exact HRR.out _ ⟨HW.out.bel, HW.out.p⟩
  case hnp => rfl
  case hv => first | exact ⟨_, fun _ => rfl⟩ | exact ⟨undef, fun _ => rfl⟩
  apply obl_det
  case hrun =>
    intro D y wz hW hD R hR
    have HRR := Lib.hid hR
    clear hR
    have HW := Lib.hid hW
    clear hW hD
    go_wp2_with fail
    refine (nameWax_any x _).mono ?_
    rintro e w' ⟨rfl, hb⟩
    have HW2 := Lib.hid (NmW.next HW.out hb)
    clear hb
    go_wp2_with fail
    exact HRR.out _ ⟨HW2.out.bel, HW2.out.p⟩
  case hnp => rfl
  case hv => first | exact ⟨_, fun _ => rfl⟩ | exact ⟨undef, fun _ => rfl⟩
  apply obl_priv 6
  case hd => rfl
  case hp => rfl
  case hrun =>
    intro D y wz hW hD R hR
    have HRR := Lib.hid hR
    clear hR
    have h7 : D 7 = false := hD.post _ 7 rfl (by kernel_rfl)
    have HBS := Lib.hid hW.bel
    have H7 := Lib.hid h7
    clear hW hD h7
    go_wp2_with fail
    refine HRR.out (.pointer (some ⟨wz.heap.size, 0, none⟩)) _ ⟨HBS.out.alloc HBS.out.size _, fun _ => ⟨_, rfl, HBS.out.size, ?_⟩⟩
    show _ = some (Obj.cells #[if D 7 = true then _ else _] _)
    rw [H7.out]
    exact heap_alloc_new _ _
  apply obl_det
  case hrun =>
    intro D y wz hW hD R hR
    have HRR := Lib.hid hR
    clear hR
    have h7 : D 7 = false := hD.not
    obtain ⟨gp, e, hgt, hcell⟩ := hW.p (hD.pre _ 6 rfl (by kernel_rfl))
    rw [h7] at hcell
    have CC := Lib.hid (Bs.snocU (l := []) (w := W1) ⟨by simp, by simp, by simp, hW.bel⟩ (by simp) hcell hgt)
    have E := Lib.hid e
    have HGT := Lib.hid hgt
    clear hW hD h7 hcell e hgt
    refine wpList_cell_bs rfl 9 _ _ rfl CC.out 0 gp 0 _ _ rfl E.out (.string x.name) rfl (by simp) rfl infoStr ?_
    intro w4 hC4
    simp only [Act.put]
    go_simp
    exact HRR.out _ ⟨hC4.bel, fun _ => ⟨gp, E.out, HGT.out, hC4.get 0 rfl⟩⟩
  case hnp => rfl
  case hv => first | exact ⟨_, fun _ => rfl⟩ | exact ⟨undef, fun _ => rfl⟩
  apply obl_nil
  intro D y w8 hall hW
  obtain ⟨gp, e, hgt, hcell⟩ := hW.p (hall 6 (by decide))
  rw [hall 7 (by decide)] at hcell
  simp only [if_true] at hcell
  have HCE := Lib.hid hcell
  have C2 := Lib.hid (C0.out.call hW.bel)
  have HGT := Lib.hid (Nat.lt_of_lt_of_le (C0.out.lt 0 rfl) hgt)
  clear hW hall hcell hgt C0 HWB HC1 HC2 HC3 HC4 HC5 HC6 HC7 HC8
  rw [e]
  clear e
  have h6 := cell_of_row _ _ 0 _ _ _ HCE.out
  go_wp2_with fail
  refine (name_r true x.name _ hsz HN.out).mono ?_
  rintro e w9 ⟨rfl, hb⟩
  have C3 := Lib.hid (C2.out.call hb)
  have HCF := Lib.hid (block_keep HCE.out hb)
  clear hb h6 C2 HCE
  go_wp2_with fail
  have HG := Lib.hid (block_lt HCF.out)
  have HSL := Lib.hid ((HTK.out.below C3.out.bel).mono C3.out.bel.size)
  have HX := Lib.hid (hasWax_any (some ⟨w.heap.size, 0, none⟩) (some ⟨gp, 0, none⟩) false tk (fun y => sameN x.name y.name) _ w9 HSL.out (fun k' W _ hW => sameWax_r _ _ x.name _ _ W ((hW.cell (p := ⟨w.heap.size, 0, none⟩) (C3.out.lt 0 rfl)).trans (C3.out.cell 0 rfl 0)) ((hW.cell (p := ⟨gp, 0, none⟩) HG.out).trans (cell_of_row _ _ 0 _ _ _ HCF.out)) (Nat.lt_of_lt_of_le (C3.out.lt 0 rfl) hW.size) (Nat.lt_of_lt_of_le HG.out hW.size) rfl) HT.out)
  refine HX.out.mono ?_
  rintro e w10 ⟨rfl, hb⟩
  have C4 := Lib.hid (C3.out.call hb)
  clear hb C3 HCF
  go_wp2_with fail
  go_ret
  exact ⟨rfl, C4.out.bel⟩
end Go.Proofs.YtpkggjobdmchlaaGreatDoor
