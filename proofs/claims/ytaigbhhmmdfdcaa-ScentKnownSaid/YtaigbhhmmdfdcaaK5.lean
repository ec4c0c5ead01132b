/- Walks: Made, the batches of a shop one by one. -/
import Derived.Test.YtaigbhhmmdfdcaaK4
import Derived.RangeFuncNested
import Derived.RangeFuncBound
import Derived.RangeFuncCalls
import Derived.RangeFuncLeaves
import Derived.Shelf.Abstract
import Derived.Shelf.RegionOpen
import Derived.OwnWalkIn
import Derived.TacticsInMore
import Derived.LoopNIn
import Derived.LoopIn
import Derived.Test.YtaigbhhmmdfdcaaK1
/- scent.Made. -/
namespace Go.Proofs.Ytaigbhhmmdfdcaa
open Go.RowKit
theorem info36 : (Try.prog.info? 36).map (·.size) = some 1 := by kernel_rfl
theorem results_c36_tmp {fn : Func} {p u : Tmp} (h : fn.results = #[.cell p 36, .tmp u]) (tmps : Array Value) (w : World) (g : Nat) (v : Value) (hp : tmps.getD p undef = .pointer (some ⟨g, 0, none⟩)) (hc : w.cell? ⟨g, 0, none⟩ = some v) :
    (results fn tmps).run Try.prog w = .ok (.tuple #[v, tmps.getD u undef]) w := by
  rw [results_cell_tmp h, hp]
  simp [asAddr, loadVar, Sem.run_bind, go_sem, hc]
theorem all_any {α : Type} (l : List (List α)) (n : Nat) : l.all (fun y => decide (y.length = n)) = !l.any (fun y => decide (y.length ≠ n)) := by
  induction l with
  | nil => rfl
  | cons a l ih => simp only [List.all_cons, List.any_cons, ih, Bool.not_or]; congr 1; by_cases h : a.length = n <;> simp [h]
theorem made_one (z : Value) (n : Nat) : madeCells #[z] (n * 1) = (List.replicate n z).toArray := by
  unfold madeCells
  apply Array.ext
  · simp
  · intro i h1 h2
    simp [Nat.mod_one]
theorem run_made (w : World) (n : Nat) (hn : n ≤ 1000) :
    (Instr.makeSlice 36 (.int .i64 n) (.int .i64 n)).run Try.prog w = .ok (.slice (some ⟨w.heap.size, 0, none⟩) n n) (w.alloc (.cells (ints (List.replicate n 0)) 3)) := by
  obtain ⟨i, h1, h2, h3, h4⟩ := info3'
  have hb : (i.bytes : Int) * (n : Int) ≤ 8 * (n : Int) := Int.mul_le_mul_of_nonneg_right (by omega) (by omega)
  have := run_make w 36 3 i (.int .i64 0) Try.underlying36 h1 h2 .i64 .i64 n n (by omega) (by omega) (by omega) (by omega)
  rw [this, show (Value.int .i64 0).cells = #[.int .i64 0] from rfl, h3, Int.toNat_natCast, made_one]
  simp [ints]
theorem SlIn.row {α : Type} [Inhabited α] {R : Rd α} {B : Nat} {w : World} {v : Value} {l : List α} (h : SlIn R B w v l) (h0 : 0 < l.length) : ∃ b o c, v = .slice (some ⟨b, o, none⟩) l.length c ∧ l.length ≤ c ∧ b < B ∧ ∀ i, i < l.length → R.rd B w b (o + i * R.sz) (l.getD i default) := by
  obtain ⟨a, c, rfl, hl, hlc, h⟩ := h
  rcases h with rfl | ⟨b, o, rfl, hbb, h⟩
  · simp at h0
  · exact ⟨b, o, c, rfl, hlc, hbb, h⟩
theorem not_box {w : World} {g b o : Nat} {a : Option Addr} {n c : Nat} {t : TypeId} {x : Int} (h : w.heap[g]? = some (.cells #[.slice a n c] t)) (hc : w.cell? ⟨b, o, none⟩ = some (.int .i64 x)) : b ≠ g := by
  rintro rfl
  rw [cell_of_row _ _ _ _ _ _ h] at hc
  cases o with
  | zero => simp at hc
  | succ o => simp at hc
theorem ints_row {k : IntKind} {B : Nat} {w : World} {v : Value} {l : List Int} (h : IntsIn k B w v l) (h0 : 0 < l.length) : ∃ b o c, v = .slice (some ⟨b, o, none⟩) l.length c ∧ b < B ∧ ∀ i, i < l.length → w.cell? ⟨b, o + i, none⟩ = some (.int k (l.getD i 0)) := by
  obtain ⟨a, c, rfl, hl, h⟩ := h
  rcases h with rfl | ⟨b, o, rfl, hbb, h⟩
  · simp at h0
  · exact ⟨b, o, c, rfl, hbb, h⟩
theorem not_box' {w : World} {g b o : Nat} {a : Option Addr} {n c : Nat} {t : TypeId} {x : Option Addr} (h : w.heap[g]? = some (.cells #[.slice a n c] t)) (hc : w.cell? ⟨b, o, none⟩ = some (.pointer x)) : b ≠ g := by
  rintro rfl
  rw [cell_of_row _ _ _ _ _ _ h] at hc
  cases o with
  | zero => simp at hc
  | succ o => simp at hc
theorem any_len {l : List (List Int)} {n : Nat} (h : l.any (fun y => decide (y.length ≠ n)) = false) {i : Nat} (hi : i < l.length) : (l.getD i []).length = n := by
  have := List.any_eq_false.1 h (l.getD i []) (by rw [List.getD_eq_getElem?_getD, List.getElem?_eq_getElem hi]; simp)
  simpa using this
/-- The number of things is laid in a box of its own. -/
structure SevW (wb : World) (nt : Nat) (d7 d8 : Bool) (w' : World) : Prop where
  bel : Below wb.heap.size wb w'
  size : d7 = false → w'.heap.size = wb.heap.size
  cell : d7 = true → w'.heap[wb.heap.size]? = some (.cells #[.int .i64 (if d8 then (nt : Int) else 0)] 3)
set_option maxRecDepth 100000 in
set_option maxHeartbeats 40000000 in
theorem made_any (s : Shop) (l : List Bat) (k : Int) (x : Tru) (vt vl v tl tb ta' : Value) (w : World) (hv : ShopAt w.heap.size w vt vl s) (hl' : BatsIn w.heap.size w v l) (hx : TruAt w.heap.size w tl tb ta' x) :
    Calls Try.prog 27 #[.agg #[vt, vl], v, .int .i64 k, .agg #[tl, tb, ta']] w (RetInts (madeV s l k x) (madeE s l k x) w) := by
  unfold RetInts
  have HV := Lib.hid hv
  have HL := Lib.hid hl'
  have HX := Lib.hid hx
  obtain ⟨ta, tc, rfl, -, htl⟩ := sl_shape hv.1
  obtain ⟨la, lc, rfl, -, hll⟩ := sl_shape hv.2
  obtain ⟨va, vc, rfl, -, hvl⟩ := sl_shape hl'
  obtain ⟨xa, xc, rfl, -, hxl⟩ := sl_shape hx.1
  obtain ⟨ya, yc, rfl, -, hyl⟩ := sl_shape hx.2.1
  obtain ⟨za, zc, rfl, hzl⟩ := ints_shape hx.2.2
  clear hv hl' hx
  have C0 := Lib.hid ((((Bs.nil w).push _ rfl (.cells #[.slice ta s.things.length tc, .slice la s.lots.length lc] 25)).push (w.heap.size + 1) (by simp) (.cells #[.slice xa x.lots.length xc, .slice ya x.back.length yc, .slice za x.added.length zc] 44)).push (w.heap.size + 1 + 1) (by simp) (.cells #[.slice none 0 0] 36))
  have HMELT := Lib.hid (melt_any s l _ _ _ _ (HV.out.next C0.out.bel) (HL.out.next C0.out.bel))
  unfold MeltPost at HMELT
  have HMV : Hid (madeV s l k x = if madeE s l k x ≠ 0 then [] else (List.range s.things.length).map (madeT s (l.getD k.toNat default) x)) := rfl
  have HME : Hid (madeE s l k x = if batchesE s l ≠ 0 then batchesE s l else if outOne 0 (l.length - 1) k then 4 else truthE s l k.toNat x) := rfl
  have HOKB := Lib.hid (all_ok (s := s) (l := l))
  obtain ⟨E, hE⟩ : ∃ x, batchesE s l = x := ⟨_, rfl⟩
  rw [hE] at HMELT HME
  simp only [hE] at HOKB
  clear hE
  obtain ⟨r1, hr1⟩ : ∃ r, outOne 0 ((l.length : Int) - 1) k = r := ⟨_, rfl⟩
  rw [hr1] at HME
  have HR1 := Lib.hid hr1
  clear hr1
  go_enter Try.func27, Try.ntmps27
  go_wp2_with fail
  refine HMELT.out.mono ?_
  rintro e w1 ⟨hbad, hgood⟩
  by_cases hz : E = 0
  case neg =>
    have hz2 : (E != 0) = true := by simpa using hz
    have HZ := Lib.hid hz
    obtain ⟨rfl, hb1⟩ := hbad hz
    clear hz hbad hgood
    have C1 := Lib.hid (C0.out.call hb1)
    clear hb1 C0
    go_wp2_with (refine wpList_cell_bs rfl 36 _ _ rfl C1.out 2 (w.heap.size + 1 + 1) 0 _ 36 rfl rfl (.slice none 0 0) rfl (by simp) rfl info36 ?_; intro w9 C9)
    refine bodyPost_ret (v := .tuple #[.slice none 0 0, .int .i64 E]) ?_ rfl ?_
    · rw [results_c36_tmp rfl _ _ (w.heap.size + 1 + 1) (.slice none 0 0) rfl (by rw [C9.cell 2 rfl]; rfl)]
      rfl
    · have HE9 : madeE s l k x = E := by rw [HME.out, if_pos HZ.out]
      refine ⟨_, by rw [HE9], ?_, C9.bel⟩
      rw [HMV.out, HE9, if_pos (by first | exact HZ.out | decide)]
      exact IntsIn.nil _ _
  subst hz
  obtain ⟨g, bo, vr, rfl, hA⟩ := hgood rfl
  have HA := Lib.hid hA
  have HOK := Lib.hid (HOKB.out rfl)
  have C1 := Lib.hid (C0.out.call hA.bel)
  clear hbad hgood hA HOKB HMELT
  obtain ⟨ra, rc, hvr⟩ := HA.out.shape
  subst hvr
  have hn6 := HOK.out.l6
  have hn1 := HOK.out.l1
  have hnt5 := HOK.out.sh.nt5
  rw [if_neg (fun h => h rfl)] at HME
  have C1A := Lib.hid (C1.out.push _ rfl (.cells #[.int .i64 k] 3))
  go_wp2_with fail
  refine (out_one r1 0 _ _ HR1.out _ _ (C1A.out.get 3 rfl)).mono ?_
  rintro e w2 ⟨rfl, hb1⟩
  have C2 := Lib.hid ((C1A.out.call hb1).sub [(w.heap.size, .cells #[.slice ta s.things.length tc, .slice la s.lots.length lc] 25), (w.heap.size + 1, .cells #[.slice xa x.lots.length xc, .slice ya x.back.length yc, .slice za x.added.length zc] 44), (w.heap.size + 1 + 1, .cells #[.slice none 0 0] 36)] (by simp))
  have HA2 := Lib.hid ((HA.out.alloc (.cells #[.int .i64 k] 3)).call hb1)
  have HN2L : Hid (w.heap.size + 1 + 1 < w2.heap.size) := C2.out.lt 2 rfl
  clear hb1 C1 C1A HA
  cases r1
  case true =>
    go_wp2_with (refine wpList_cell_bs rfl 36 _ _ rfl C2.out 2 (w.heap.size + 1 + 1) 0 _ 36 rfl rfl (.slice none 0 0) rfl (by simp) rfl info36 ?_; intro w9 C9)
    refine bodyPost_ret (v := .tuple #[.slice none 0 0, .int .i64 4]) ?_ rfl ?_
    · rw [results_c36_tmp rfl _ _ (w.heap.size + 1 + 1) (.slice none 0 0) rfl (by rw [C9.cell 2 rfl]; rfl)]
      rfl
    · have HE9 : madeE s l k x = 4 := by rw [HME.out]; rfl
      refine ⟨_, by rw [HE9], ?_, C9.bel⟩
      rw [HMV.out, HE9, if_pos (by first | exact HZ.out | decide)]
      exact IntsIn.nil _ _
  simp only [Bool.false_eq_true, if_false] at HME
  obtain ⟨kt, rfl⟩ : ∃ n : Nat, k = n := ⟨k.toNat, by have := (outOne_false.1 HR1.out).1; omega⟩
  have hkt : kt < l.length := by have := (outOne_false.1 HR1.out).2; omega
  simp only [Int.toNat_natCast] at HMV HME
  obtain ⟨pb, pc, he, hpc, hpb, hcell⟩ := HA2.out.ptr hkt
  cases he
  have hkt2 : (kt : Int) < (l.length : Int) := by omega
  have hc0 := C2.out.cell 0 rfl 0
  have hgs2 := C2.out.lt 0 rfl
  go_wp2_with fail
  refine wp_region_inv0 (by kernel_rfl) (by kernel_rfl) (fun D w' => SevW w2 s.things.length (D 7) (D 8) w') ⟨(Below.refl _ _).drew, fun _ => rfl, fun h => (by cases h)⟩ ?_
  iterate 7
    (apply obl_det
     case hrun =>
       intro D y wz hW hD R hR
       have HRR := Lib.hid hR
       clear hR
       have HW := Lib.hid hW
       have hc2 := (cellB hW.bel).1
       clear hW hD
       go_wp2
       exact HRR.out _ HW.out
     case hnp => rfl
     case hv => first | exact ⟨_, fun _ => rfl⟩ | exact ⟨undef, fun _ => rfl⟩)
  apply obl_det
  case hrun =>
    intro D y wz hW hD R hR
    have HRR := Lib.hid hR
    clear hR
    have h7 : D 7 = false := hD.not
    have h8 : D 8 = false := hD.post _ 8 rfl (by kernel_rfl)
    have HSZ := Lib.hid (hW.size h7)
    have HBE := Lib.hid hW.bel
    have H8 := Lib.hid h8
    have HW := Lib.hid hW
    clear hW hD h7 h8
    go_wp2
    rw [HSZ.out]
    refine HRR.out _ ⟨HBE.out.alloc HBE.out.size _, fun h => (by cases h), fun _ => ?_⟩
    rw [H8.out, ← HSZ.out]
    exact heap_alloc_new _ _
  case hnp => rfl
  case hv => first | exact ⟨_, fun _ => rfl⟩ | exact ⟨undef, fun _ => rfl⟩
  apply obl_det
  case hrun =>
    intro D y wz hW hD R hR
    have HRR := Lib.hid hR
    clear hR
    have h7 : D 7 = true := hD.pre _ 7 rfl (by kernel_rfl)
    have h8 : D 8 = false := hD.not
    have HCL := Lib.hid (hW.cell h7)
    have H7 := Lib.hid h7
    have HW := Lib.hid hW
    clear hW hD h7 h8
    refine wpList_cell_but rfl 3 _ _ rfl w2.heap.size 0 _ 3 HCL.out rfl (.int .i64 s.things.length) rfl (by simp) rfl info3 ?_
    intro w6 hg6 hb6
    have HG6 := Lib.hid hg6
    have HB6 := Lib.hid (HW.out.bel.trans (hb6.below (Nat.le_refl _) HW.out.bel.size))
    clear hg6 hb6
    go_wp2
    exact HRR.out _ ⟨HB6.out, fun h => (by rw [H7.out] at h; cases h), fun _ => HG6.out⟩
  case hnp => rfl
  case hv => first | exact ⟨_, fun _ => rfl⟩ | exact ⟨undef, fun _ => rfl⟩
  apply obl_det
  case hrun =>
    intro D y wz hW hD R hR
    have HRR := Lib.hid hR
    clear hR
    have HW := Lib.hid hW
    clear hW hD
    go_wp2
    exact HRR.out _ HW.out
  case hnp => rfl
  case hv => first | exact ⟨_, fun _ => rfl⟩ | exact ⟨undef, fun _ => rfl⟩
  apply obl_nil
  intro D y w3 hall hW
  have hcl := hW.cell (hall 7 (by decide))
  rw [hall 8 (by decide)] at hcl
  simp only [if_true] at hcl
  have HN3 := Lib.hid hcl
  have C3 := Lib.hid (C2.out.call hW.bel)
  have HA3 := Lib.hid (HA2.out.call hW.bel)
  clear hW hall hcl hcell hpb hc0 hgs2 C2 HA2
  have HGK : Hid (g kt < w3.heap.size) := block_lt (HA3.out.obj kt hkt)
  have HN0 : Hid (w2.heap.size < w3.heap.size) := block_lt HN3.out
  have HBO := Lib.hid (HA3.out.ok kt hkt).2.2.2.2
  have HBG := Lib.hid (bat_ok0 (batchE_zero (HOK.out.pre kt hkt)).1)
  obtain ⟨ba, bc, hvb, -⟩ := ints_shape HBO.out.2.1
  have HVB : Hid (w3.cell? ⟨g kt, 1, none⟩ = some (.slice ba (l.getD kt default).back.length bc)) := by unfold Hid; rw [cell_of_row _ _ 1 _ _ _ (HA3.out.obj kt hkt), ← hvb]; rfl
  clear hvb
  go_wp2_with fail
  have HTE : Hid (truthE s l kt x = if lensB s (l.getD kt default) x = false then 3 else if (List.range s.things.length).all (truthIn s l (rangesV s l) (l.getD kt default) x) then 0 else 7) := rfl
  have HLB : Hid (lensB s (l.getD kt default) x = (decide (x.lots.length = s.lots.length) && x.lots.all (fun y => decide (y.length = s.things.length)) && decide (x.back.length = (l.getD kt default).back.length) && x.back.all (fun y => decide (y.length = s.things.length)) && decide (x.added.length = s.things.length))) := rfl
  obtain ⟨r3, hr3⟩ : ∃ r, decide (x.added.length ≠ s.things.length) = r := ⟨_, rfl⟩
  obtain ⟨r4, hr4⟩ : ∃ r, x.lots.any (fun y => decide (y.length ≠ s.things.length)) = r := ⟨_, rfl⟩
  obtain ⟨r5, hr5⟩ : ∃ r, x.back.any (fun y => decide (y.length ≠ s.things.length)) = r := ⟨_, rfl⟩
  have HR3 := Lib.hid hr3
  have HR4 := Lib.hid hr4
  have HR5 := Lib.hid hr5
  clear hr3 hr4 hr5
  have S3 : ∀ wz, Bs w3 [] wz → Hid (Calls Try.prog 69 #[.slice za x.added.length zc, .pointer (some ⟨w2.heap.size, 0, none⟩)] wz fun e w' => e = .returned (.bool r3) ∧ Below wz.heap.size wz w') := fun wz hz => by
    rw [← HR3.out]
    exact short69 x.added _ w2.heap.size s.things.length wz ((HX.out.2.2.below (C3.out.bel.trans (hz.bel.mono C3.out.bel.size))).mono (Nat.le_trans C3.out.bel.size hz.bel.size)) (block_keep HN3.out hz.bel)
  have S4 : ∀ wz, Bs w3 [] wz → Hid (Calls Try.prog 70 #[.slice xa x.lots.length xc, .func (.func 69) #[] #[.pointer (some ⟨w2.heap.size, 0, none⟩)]] wz fun e w' => e = .returned (.bool r4) ∧ Below wz.heap.size wz w') := fun wz hz =>
    hasInts_any _ r4 x.lots (fun y => decide (y.length ≠ s.things.length)) _ wz ((HX.out.1.below (C3.out.bel.trans (hz.bel.mono C3.out.bel.size))).mono (Nat.le_trans C3.out.bel.size hz.bel.size)) (fun k W _ hW u hu => short69 _ u w2.heap.size s.things.length W hu (block_keep (block_keep HN3.out hz.bel) hW)) HR4.out
  have S5 : ∀ wz, Bs w3 [] wz → Hid (Calls Try.prog 70 #[.slice ya x.back.length yc, .func (.func 69) #[] #[.pointer (some ⟨w2.heap.size, 0, none⟩)]] wz fun e w' => e = .returned (.bool r5) ∧ Below wz.heap.size wz w') := fun wz hz =>
    hasInts_any _ r5 x.back (fun y => decide (y.length ≠ s.things.length)) _ wz ((HX.out.2.1.below (C3.out.bel.trans (hz.bel.mono C3.out.bel.size))).mono (Nat.le_trans C3.out.bel.size hz.bel.size)) (fun k W _ hW u hu => short69 _ u w2.heap.size s.things.length W hu (block_keep (block_keep HN3.out hz.bel) hW)) HR5.out
  generalize hn1 : x.lots.length = n1 at *
  generalize hn2 : x.back.length = n2 at *
  generalize hn3 : x.added.length = n3 at *
  generalize hn4 : s.lots.length = nl at *
  generalize hn5 : (l.getD kt default).back.length = nb at *
  have HL1 := Lib.hid hn1
  have HL2 := Lib.hid hn2
  have HL3 := Lib.hid hn3
  have HL4 := Lib.hid hn4
  have HL5 := Lib.hid hn5
  clear hn1 hn2 hn3 hn4 hn5
  have ERR : lensB s (l.getD kt default) x = false → Hid (madeE s l (kt : Int) x = 3) := fun h => by unfold Hid; rw [HME.out, HTE.out, if_pos h]
  by_cases q1 : n1 = nl
  case neg =>
    have EE := ERR (by rw [HLB.out]; simp [q1])
    have hq1 : ((n1 : Int) != (nl : Int)) = true := by simp; omega
    clear q1
    refine wp_region_inv0 (by kernel_rfl) (by kernel_rfl) (fun D w' => Bs w3 [] w') ((Bs.nil w3).drew) ?_
    iterate 37
      (apply obl_det
       case hrun =>
         intro D y wz hW hD R hR
         have HRR := Lib.hid hR
         clear hR
         have HW := Lib.hid hW
         have CZ := C3.out.call HW.out.bel
         have z0 := CZ.cell 1 rfl 0
         have z1 := CZ.cell 1 rfl 1
         have z2 := CZ.cell 1 rfl 2
         have z3 := CZ.cell 0 rfl 1
         have z4 := (HW.out.bel.cell (p := ⟨g kt, 1, none⟩) HGK.out).trans HVB.out
         have hz5 := Nat.lt_of_lt_of_le (C3.out.lt 1 rfl) HW.out.bel.size
         clear CZ
         clear hW hD
         go_wp2
         exact HRR.out _ HW.out
       case hnp => rfl
       case hv => first | exact ⟨_, fun _ => rfl⟩ | exact ⟨undef, fun _ => rfl⟩)
    apply obl_nil
    intro D y w8 hall hW
    clear hall
    have C4 := Lib.hid (C3.out.call hW.bel)
    have HA4 := Lib.hid (HA3.out.call hW.bel)
    have HBW := Lib.hid hW.bel
    clear hW
    clear hq1
    go_wp2_with (refine wpList_cell_bs rfl 36 _ _ rfl C4.out 2 (w.heap.size + 1 + 1) 0 _ 36 rfl rfl (.slice none 0 0) rfl (by simp) rfl info36 ?_; intro w9 C9)
    refine bodyPost_ret (v := .tuple #[.slice none 0 0, .int .i64 3]) ?_ rfl ?_
    · rw [results_c36_tmp rfl _ _ (w.heap.size + 1 + 1) (.slice none 0 0) rfl (by rw [C9.cell 2 rfl]; rfl)]
      rfl
    · have HE9 : madeE s l (kt : Int) x = 3 := by exact EE.out
      refine ⟨_, by rw [HE9], ?_, C9.bel⟩
      rw [HMV.out, HE9, if_pos (by first | exact HZ.out | decide)]
      exact IntsIn.nil _ _
  have hq1 : ((n1 : Int) != (nl : Int)) = false := by simp; omega
  by_cases q2 : n2 = nb
  case neg =>
    have EE := ERR (by rw [HLB.out]; simp [q2])
    have hq2 : ((n2 : Int) != (nb : Int)) = true := by simp; omega
    have HQ1 := Lib.hid q1
    clear q1 q2
    refine wp_region_inv0 (by kernel_rfl) (by kernel_rfl) (fun D w' => Bs w3 [] w') ((Bs.nil w3).drew) ?_
    iterate 37
      (apply obl_det
       case hrun =>
         intro D y wz hW hD R hR
         have HRR := Lib.hid hR
         clear hR
         have HW := Lib.hid hW
         have CZ := C3.out.call HW.out.bel
         have z0 := CZ.cell 1 rfl 0
         have z1 := CZ.cell 1 rfl 1
         have z2 := CZ.cell 1 rfl 2
         have z3 := CZ.cell 0 rfl 1
         have z4 := (HW.out.bel.cell (p := ⟨g kt, 1, none⟩) HGK.out).trans HVB.out
         have hz5 := Nat.lt_of_lt_of_le (C3.out.lt 1 rfl) HW.out.bel.size
         clear CZ
         clear hW hD
         go_wp2
         exact HRR.out _ HW.out
       case hnp => rfl
       case hv => first | exact ⟨_, fun _ => rfl⟩ | exact ⟨undef, fun _ => rfl⟩)
    apply obl_nil
    intro D y w8 hall hW
    clear hall
    have C4 := Lib.hid (C3.out.call hW.bel)
    have HA4 := Lib.hid (HA3.out.call hW.bel)
    have HBW := Lib.hid hW.bel
    clear hW
    clear hq1 hq2
    go_wp2_with (refine wpList_cell_bs rfl 36 _ _ rfl C4.out 2 (w.heap.size + 1 + 1) 0 _ 36 rfl rfl (.slice none 0 0) rfl (by simp) rfl info36 ?_; intro w9 C9)
    refine bodyPost_ret (v := .tuple #[.slice none 0 0, .int .i64 3]) ?_ rfl ?_
    · rw [results_c36_tmp rfl _ _ (w.heap.size + 1 + 1) (.slice none 0 0) rfl (by rw [C9.cell 2 rfl]; rfl)]
      rfl
    · have HE9 : madeE s l (kt : Int) x = 3 := by exact EE.out
      refine ⟨_, by rw [HE9], ?_, C9.bel⟩
      rw [HMV.out, HE9, if_pos (by first | exact HZ.out | decide)]
      exact IntsIn.nil _ _
  have hq2 : ((n2 : Int) != (nb : Int)) = false := by simp; omega
  have HQ1 := Lib.hid q1
  have HQ2 := Lib.hid q2
  clear q1 q2
  cases r3
  case true =>
    have EE := ERR (by rw [HLB.out, show decide (n3 = s.things.length) = false by simpa using HR3.out, Bool.and_false])
    refine wp_region_inv0 (by kernel_rfl) (by kernel_rfl) (fun D w' => Bs w3 [] w') ((Bs.nil w3).drew) ?_
    iterate 23
      (apply obl_det
       case hrun =>
         intro D y wz hW hD R hR
         have HRR := Lib.hid hR
         clear hR
         have HW := Lib.hid hW
         have CZ := C3.out.call HW.out.bel
         have z0 := CZ.cell 1 rfl 0
         have z1 := CZ.cell 1 rfl 1
         have z2 := CZ.cell 1 rfl 2
         have z3 := CZ.cell 0 rfl 1
         have z4 := (HW.out.bel.cell (p := ⟨g kt, 1, none⟩) HGK.out).trans HVB.out
         have hz5 := Nat.lt_of_lt_of_le (C3.out.lt 1 rfl) HW.out.bel.size
         clear CZ
         clear hW hD
         go_wp2
         exact HRR.out _ HW.out
       case hnp => rfl
       case hv => first | exact ⟨_, fun _ => rfl⟩ | exact ⟨undef, fun _ => rfl⟩)
    apply obl_det
    case hrun =>
      intro D y wz hW hD R hR
      have HRR := Lib.hid hR
      clear hR
      have HW := Lib.hid hW
      have CZ := C3.out.call HW.out.bel
      have z0 := CZ.cell 1 rfl 0
      have z1 := CZ.cell 1 rfl 1
      have z2 := CZ.cell 1 rfl 2
      have z3 := CZ.cell 0 rfl 1
      have z4 := (HW.out.bel.cell (p := ⟨g kt, 1, none⟩) HGK.out).trans HVB.out
      have hz5 := Nat.lt_of_lt_of_le (C3.out.lt 1 rfl) HW.out.bel.size
      clear CZ
      clear hW hD
      go_wp2_with fail
      refine (S3 wz HW.out).out.mono ?_
      rintro e w' ⟨rfl, hb⟩
      have HW2 := Lib.hid (HW.out.call hb)
      clear hb
      go_wp2_with fail
      exact HRR.out _ HW2.out
    case hnp => rfl
    case hv => first | exact ⟨_, fun _ => rfl⟩ | exact ⟨undef, fun _ => rfl⟩
    iterate 13
      (apply obl_det
       case hrun =>
         intro D y wz hW hD R hR
         have HRR := Lib.hid hR
         clear hR
         have HW := Lib.hid hW
         have CZ := C3.out.call HW.out.bel
         have z0 := CZ.cell 1 rfl 0
         have z1 := CZ.cell 1 rfl 1
         have z2 := CZ.cell 1 rfl 2
         have z3 := CZ.cell 0 rfl 1
         have z4 := (HW.out.bel.cell (p := ⟨g kt, 1, none⟩) HGK.out).trans HVB.out
         have hz5 := Nat.lt_of_lt_of_le (C3.out.lt 1 rfl) HW.out.bel.size
         clear CZ
         clear hW hD
         go_wp2
         exact HRR.out _ HW.out
       case hnp => rfl
       case hv => first | exact ⟨_, fun _ => rfl⟩ | exact ⟨undef, fun _ => rfl⟩)
    apply obl_nil
    intro D y w8 hall hW
    clear hall
    have C4 := Lib.hid (C3.out.call hW.bel)
    have HA4 := Lib.hid (HA3.out.call hW.bel)
    have HBW := Lib.hid hW.bel
    clear hW
    clear hq1 hq2
    go_wp2_with (refine wpList_cell_bs rfl 36 _ _ rfl C4.out 2 (w.heap.size + 1 + 1) 0 _ 36 rfl rfl (.slice none 0 0) rfl (by simp) rfl info36 ?_; intro w9 C9)
    refine bodyPost_ret (v := .tuple #[.slice none 0 0, .int .i64 3]) ?_ rfl ?_
    · rw [results_c36_tmp rfl _ _ (w.heap.size + 1 + 1) (.slice none 0 0) rfl (by rw [C9.cell 2 rfl]; rfl)]
      rfl
    · have HE9 : madeE s l (kt : Int) x = 3 := by exact EE.out
      refine ⟨_, by rw [HE9], ?_, C9.bel⟩
      rw [HMV.out, HE9, if_pos (by first | exact HZ.out | decide)]
      exact IntsIn.nil _ _
  cases r4
  case true =>
    have EE := ERR (by rw [HLB.out, all_any, HR4.out]; simp)
    refine wp_region_inv0 (by kernel_rfl) (by kernel_rfl) (fun D w' => Bs w3 [] w') ((Bs.nil w3).drew) ?_
    iterate 23
      (apply obl_det
       case hrun =>
         intro D y wz hW hD R hR
         have HRR := Lib.hid hR
         clear hR
         have HW := Lib.hid hW
         have CZ := C3.out.call HW.out.bel
         have z0 := CZ.cell 1 rfl 0
         have z1 := CZ.cell 1 rfl 1
         have z2 := CZ.cell 1 rfl 2
         have z3 := CZ.cell 0 rfl 1
         have z4 := (HW.out.bel.cell (p := ⟨g kt, 1, none⟩) HGK.out).trans HVB.out
         have hz5 := Nat.lt_of_lt_of_le (C3.out.lt 1 rfl) HW.out.bel.size
         clear CZ
         clear hW hD
         go_wp2
         exact HRR.out _ HW.out
       case hnp => rfl
       case hv => first | exact ⟨_, fun _ => rfl⟩ | exact ⟨undef, fun _ => rfl⟩)
    apply obl_det
    case hrun =>
      intro D y wz hW hD R hR
      have HRR := Lib.hid hR
      clear hR
      have HW := Lib.hid hW
      have CZ := C3.out.call HW.out.bel
      have z0 := CZ.cell 1 rfl 0
      have z1 := CZ.cell 1 rfl 1
      have z2 := CZ.cell 1 rfl 2
      have z3 := CZ.cell 0 rfl 1
      have z4 := (HW.out.bel.cell (p := ⟨g kt, 1, none⟩) HGK.out).trans HVB.out
      have hz5 := Nat.lt_of_lt_of_le (C3.out.lt 1 rfl) HW.out.bel.size
      clear CZ
      clear hW hD
      go_wp2_with fail
      refine (S3 wz HW.out).out.mono ?_
      rintro e w' ⟨rfl, hb⟩
      have HW2 := Lib.hid (HW.out.call hb)
      clear hb
      go_wp2_with fail
      exact HRR.out _ HW2.out
    case hnp => rfl
    case hv => first | exact ⟨_, fun _ => rfl⟩ | exact ⟨undef, fun _ => rfl⟩
    iterate 5
      (apply obl_det
       case hrun =>
         intro D y wz hW hD R hR
         have HRR := Lib.hid hR
         clear hR
         have HW := Lib.hid hW
         have CZ := C3.out.call HW.out.bel
         have z0 := CZ.cell 1 rfl 0
         have z1 := CZ.cell 1 rfl 1
         have z2 := CZ.cell 1 rfl 2
         have z3 := CZ.cell 0 rfl 1
         have z4 := (HW.out.bel.cell (p := ⟨g kt, 1, none⟩) HGK.out).trans HVB.out
         have hz5 := Nat.lt_of_lt_of_le (C3.out.lt 1 rfl) HW.out.bel.size
         clear CZ
         clear hW hD
         go_wp2
         exact HRR.out _ HW.out
       case hnp => rfl
       case hv => first | exact ⟨_, fun _ => rfl⟩ | exact ⟨undef, fun _ => rfl⟩)
    apply obl_det
    case hrun =>
      intro D y wz hW hD R hR
      have HRR := Lib.hid hR
      clear hR
      have HW := Lib.hid hW
      have CZ := C3.out.call HW.out.bel
      have z0 := CZ.cell 1 rfl 0
      have z1 := CZ.cell 1 rfl 1
      have z2 := CZ.cell 1 rfl 2
      have z3 := CZ.cell 0 rfl 1
      have z4 := (HW.out.bel.cell (p := ⟨g kt, 1, none⟩) HGK.out).trans HVB.out
      have hz5 := Nat.lt_of_lt_of_le (C3.out.lt 1 rfl) HW.out.bel.size
      clear CZ
      clear hW hD
      go_wp2_with fail
      refine (S4 wz HW.out).out.mono ?_
      rintro e w' ⟨rfl, hb⟩
      have HW2 := Lib.hid (HW.out.call hb)
      clear hb
      go_wp2_with fail
      exact HRR.out _ HW2.out
    case hnp => rfl
    case hv => first | exact ⟨_, fun _ => rfl⟩ | exact ⟨undef, fun _ => rfl⟩
    iterate 7
      (apply obl_det
       case hrun =>
         intro D y wz hW hD R hR
         have HRR := Lib.hid hR
         clear hR
         have HW := Lib.hid hW
         have CZ := C3.out.call HW.out.bel
         have z0 := CZ.cell 1 rfl 0
         have z1 := CZ.cell 1 rfl 1
         have z2 := CZ.cell 1 rfl 2
         have z3 := CZ.cell 0 rfl 1
         have z4 := (HW.out.bel.cell (p := ⟨g kt, 1, none⟩) HGK.out).trans HVB.out
         have hz5 := Nat.lt_of_lt_of_le (C3.out.lt 1 rfl) HW.out.bel.size
         clear CZ
         clear hW hD
         go_wp2
         exact HRR.out _ HW.out
       case hnp => rfl
       case hv => first | exact ⟨_, fun _ => rfl⟩ | exact ⟨undef, fun _ => rfl⟩)
    apply obl_nil
    intro D y w8 hall hW
    clear hall
    have C4 := Lib.hid (C3.out.call hW.bel)
    have HA4 := Lib.hid (HA3.out.call hW.bel)
    have HBW := Lib.hid hW.bel
    clear hW
    clear hq1 hq2
    go_wp2_with (refine wpList_cell_bs rfl 36 _ _ rfl C4.out 2 (w.heap.size + 1 + 1) 0 _ 36 rfl rfl (.slice none 0 0) rfl (by simp) rfl info36 ?_; intro w9 C9)
    refine bodyPost_ret (v := .tuple #[.slice none 0 0, .int .i64 3]) ?_ rfl ?_
    · rw [results_c36_tmp rfl _ _ (w.heap.size + 1 + 1) (.slice none 0 0) rfl (by rw [C9.cell 2 rfl]; rfl)]
      rfl
    · have HE9 : madeE s l (kt : Int) x = 3 := by exact EE.out
      refine ⟨_, by rw [HE9], ?_, C9.bel⟩
      rw [HMV.out, HE9, if_pos (by first | exact HZ.out | decide)]
      exact IntsIn.nil _ _
  cases r5
  case true =>
    have EE := ERR (by rw [HLB.out, all_any x.back, HR5.out]; simp)
    refine wp_region_inv0 (by kernel_rfl) (by kernel_rfl) (fun D w' => Bs w3 [] w') ((Bs.nil w3).drew) ?_
    iterate 23
      (apply obl_det
       case hrun =>
         intro D y wz hW hD R hR
         have HRR := Lib.hid hR
         clear hR
         have HW := Lib.hid hW
         have CZ := C3.out.call HW.out.bel
         have z0 := CZ.cell 1 rfl 0
         have z1 := CZ.cell 1 rfl 1
         have z2 := CZ.cell 1 rfl 2
         have z3 := CZ.cell 0 rfl 1
         have z4 := (HW.out.bel.cell (p := ⟨g kt, 1, none⟩) HGK.out).trans HVB.out
         have hz5 := Nat.lt_of_lt_of_le (C3.out.lt 1 rfl) HW.out.bel.size
         clear CZ
         clear hW hD
         go_wp2
         exact HRR.out _ HW.out
       case hnp => rfl
       case hv => first | exact ⟨_, fun _ => rfl⟩ | exact ⟨undef, fun _ => rfl⟩)
    apply obl_det
    case hrun =>
      intro D y wz hW hD R hR
      have HRR := Lib.hid hR
      clear hR
      have HW := Lib.hid hW
      have CZ := C3.out.call HW.out.bel
      have z0 := CZ.cell 1 rfl 0
      have z1 := CZ.cell 1 rfl 1
      have z2 := CZ.cell 1 rfl 2
      have z3 := CZ.cell 0 rfl 1
      have z4 := (HW.out.bel.cell (p := ⟨g kt, 1, none⟩) HGK.out).trans HVB.out
      have hz5 := Nat.lt_of_lt_of_le (C3.out.lt 1 rfl) HW.out.bel.size
      clear CZ
      clear hW hD
      go_wp2_with fail
      refine (S3 wz HW.out).out.mono ?_
      rintro e w' ⟨rfl, hb⟩
      have HW2 := Lib.hid (HW.out.call hb)
      clear hb
      go_wp2_with fail
      exact HRR.out _ HW2.out
    case hnp => rfl
    case hv => first | exact ⟨_, fun _ => rfl⟩ | exact ⟨undef, fun _ => rfl⟩
    iterate 5
      (apply obl_det
       case hrun =>
         intro D y wz hW hD R hR
         have HRR := Lib.hid hR
         clear hR
         have HW := Lib.hid hW
         have CZ := C3.out.call HW.out.bel
         have z0 := CZ.cell 1 rfl 0
         have z1 := CZ.cell 1 rfl 1
         have z2 := CZ.cell 1 rfl 2
         have z3 := CZ.cell 0 rfl 1
         have z4 := (HW.out.bel.cell (p := ⟨g kt, 1, none⟩) HGK.out).trans HVB.out
         have hz5 := Nat.lt_of_lt_of_le (C3.out.lt 1 rfl) HW.out.bel.size
         clear CZ
         clear hW hD
         go_wp2
         exact HRR.out _ HW.out
       case hnp => rfl
       case hv => first | exact ⟨_, fun _ => rfl⟩ | exact ⟨undef, fun _ => rfl⟩)
    apply obl_det
    case hrun =>
      intro D y wz hW hD R hR
      have HRR := Lib.hid hR
      clear hR
      have HW := Lib.hid hW
      have CZ := C3.out.call HW.out.bel
      have z0 := CZ.cell 1 rfl 0
      have z1 := CZ.cell 1 rfl 1
      have z2 := CZ.cell 1 rfl 2
      have z3 := CZ.cell 0 rfl 1
      have z4 := (HW.out.bel.cell (p := ⟨g kt, 1, none⟩) HGK.out).trans HVB.out
      have hz5 := Nat.lt_of_lt_of_le (C3.out.lt 1 rfl) HW.out.bel.size
      clear CZ
      clear hW hD
      go_wp2_with fail
      refine (S4 wz HW.out).out.mono ?_
      rintro e w' ⟨rfl, hb⟩
      have HW2 := Lib.hid (HW.out.call hb)
      clear hb
      go_wp2_with fail
      exact HRR.out _ HW2.out
    case hnp => rfl
    case hv => first | exact ⟨_, fun _ => rfl⟩ | exact ⟨undef, fun _ => rfl⟩
    iterate 5
      (apply obl_det
       case hrun =>
         intro D y wz hW hD R hR
         have HRR := Lib.hid hR
         clear hR
         have HW := Lib.hid hW
         have CZ := C3.out.call HW.out.bel
         have z0 := CZ.cell 1 rfl 0
         have z1 := CZ.cell 1 rfl 1
         have z2 := CZ.cell 1 rfl 2
         have z3 := CZ.cell 0 rfl 1
         have z4 := (HW.out.bel.cell (p := ⟨g kt, 1, none⟩) HGK.out).trans HVB.out
         have hz5 := Nat.lt_of_lt_of_le (C3.out.lt 1 rfl) HW.out.bel.size
         clear CZ
         clear hW hD
         go_wp2
         exact HRR.out _ HW.out
       case hnp => rfl
       case hv => first | exact ⟨_, fun _ => rfl⟩ | exact ⟨undef, fun _ => rfl⟩)
    apply obl_det
    case hrun =>
      intro D y wz hW hD R hR
      have HRR := Lib.hid hR
      clear hR
      have HW := Lib.hid hW
      have CZ := C3.out.call HW.out.bel
      have z0 := CZ.cell 1 rfl 0
      have z1 := CZ.cell 1 rfl 1
      have z2 := CZ.cell 1 rfl 2
      have z3 := CZ.cell 0 rfl 1
      have z4 := (HW.out.bel.cell (p := ⟨g kt, 1, none⟩) HGK.out).trans HVB.out
      have hz5 := Nat.lt_of_lt_of_le (C3.out.lt 1 rfl) HW.out.bel.size
      clear CZ
      clear hW hD
      go_wp2_with fail
      refine (S5 wz HW.out).out.mono ?_
      rintro e w' ⟨rfl, hb⟩
      have HW2 := Lib.hid (HW.out.call hb)
      clear hb
      go_wp2_with fail
      exact HRR.out _ HW2.out
    case hnp => rfl
    case hv => first | exact ⟨_, fun _ => rfl⟩ | exact ⟨undef, fun _ => rfl⟩
    apply obl_det
    case hrun =>
      intro D y wz hW hD R hR
      have HRR := Lib.hid hR
      clear hR
      have HW := Lib.hid hW
      have CZ := C3.out.call HW.out.bel
      have z0 := CZ.cell 1 rfl 0
      have z1 := CZ.cell 1 rfl 1
      have z2 := CZ.cell 1 rfl 2
      have z3 := CZ.cell 0 rfl 1
      have z4 := (HW.out.bel.cell (p := ⟨g kt, 1, none⟩) HGK.out).trans HVB.out
      have hz5 := Nat.lt_of_lt_of_le (C3.out.lt 1 rfl) HW.out.bel.size
      clear CZ
      clear hW hD
      go_wp2
      exact HRR.out _ HW.out
    case hnp => rfl
    case hv => first | exact ⟨_, fun _ => rfl⟩ | exact ⟨undef, fun _ => rfl⟩
    apply obl_nil
    intro D y w8 hall hW
    clear hall
    have C4 := Lib.hid (C3.out.call hW.bel)
    have HA4 := Lib.hid (HA3.out.call hW.bel)
    have HBW := Lib.hid hW.bel
    clear hW
    clear hq1 hq2
    go_wp2_with (refine wpList_cell_bs rfl 36 _ _ rfl C4.out 2 (w.heap.size + 1 + 1) 0 _ 36 rfl rfl (.slice none 0 0) rfl (by simp) rfl info36 ?_; intro w9 C9)
    refine bodyPost_ret (v := .tuple #[.slice none 0 0, .int .i64 3]) ?_ rfl ?_
    · rw [results_c36_tmp rfl _ _ (w.heap.size + 1 + 1) (.slice none 0 0) rfl (by rw [C9.cell 2 rfl]; rfl)]
      rfl
    · have HE9 : madeE s l (kt : Int) x = 3 := by exact EE.out
      refine ⟨_, by rw [HE9], ?_, C9.bel⟩
      rw [HMV.out, HE9, if_pos (by first | exact HZ.out | decide)]
      exact IntsIn.nil _ _
  refine wp_region_inv0 (by kernel_rfl) (by kernel_rfl) (fun D w' => Bs w3 [] w') ((Bs.nil w3).drew) ?_
  iterate 23
    (apply obl_det
     case hrun =>
       intro D y wz hW hD R hR
       have HRR := Lib.hid hR
       clear hR
       have HW := Lib.hid hW
       have CZ := C3.out.call HW.out.bel
       have z0 := CZ.cell 1 rfl 0
       have z1 := CZ.cell 1 rfl 1
       have z2 := CZ.cell 1 rfl 2
       have z3 := CZ.cell 0 rfl 1
       have z4 := (HW.out.bel.cell (p := ⟨g kt, 1, none⟩) HGK.out).trans HVB.out
       have hz5 := Nat.lt_of_lt_of_le (C3.out.lt 1 rfl) HW.out.bel.size
       clear CZ
       clear hW hD
       go_wp2
       exact HRR.out _ HW.out
     case hnp => rfl
     case hv => first | exact ⟨_, fun _ => rfl⟩ | exact ⟨undef, fun _ => rfl⟩)
  apply obl_det
  case hrun =>
    intro D y wz hW hD R hR
    have HRR := Lib.hid hR
    clear hR
    have HW := Lib.hid hW
    have CZ := C3.out.call HW.out.bel
    have z0 := CZ.cell 1 rfl 0
    have z1 := CZ.cell 1 rfl 1
    have z2 := CZ.cell 1 rfl 2
    have z3 := CZ.cell 0 rfl 1
    have z4 := (HW.out.bel.cell (p := ⟨g kt, 1, none⟩) HGK.out).trans HVB.out
    have hz5 := Nat.lt_of_lt_of_le (C3.out.lt 1 rfl) HW.out.bel.size
    clear CZ
    clear hW hD
    go_wp2_with fail
    refine (S3 wz HW.out).out.mono ?_
    rintro e w' ⟨rfl, hb⟩
    have HW2 := Lib.hid (HW.out.call hb)
    clear hb
    go_wp2_with fail
    exact HRR.out _ HW2.out
  case hnp => rfl
  case hv => first | exact ⟨_, fun _ => rfl⟩ | exact ⟨undef, fun _ => rfl⟩
  iterate 5
    (apply obl_det
     case hrun =>
       intro D y wz hW hD R hR
       have HRR := Lib.hid hR
       clear hR
       have HW := Lib.hid hW
       have CZ := C3.out.call HW.out.bel
       have z0 := CZ.cell 1 rfl 0
       have z1 := CZ.cell 1 rfl 1
       have z2 := CZ.cell 1 rfl 2
       have z3 := CZ.cell 0 rfl 1
       have z4 := (HW.out.bel.cell (p := ⟨g kt, 1, none⟩) HGK.out).trans HVB.out
       have hz5 := Nat.lt_of_lt_of_le (C3.out.lt 1 rfl) HW.out.bel.size
       clear CZ
       clear hW hD
       go_wp2
       exact HRR.out _ HW.out
     case hnp => rfl
     case hv => first | exact ⟨_, fun _ => rfl⟩ | exact ⟨undef, fun _ => rfl⟩)
  apply obl_det
  case hrun =>
    intro D y wz hW hD R hR
    have HRR := Lib.hid hR
    clear hR
    have HW := Lib.hid hW
    have CZ := C3.out.call HW.out.bel
    have z0 := CZ.cell 1 rfl 0
    have z1 := CZ.cell 1 rfl 1
    have z2 := CZ.cell 1 rfl 2
    have z3 := CZ.cell 0 rfl 1
    have z4 := (HW.out.bel.cell (p := ⟨g kt, 1, none⟩) HGK.out).trans HVB.out
    have hz5 := Nat.lt_of_lt_of_le (C3.out.lt 1 rfl) HW.out.bel.size
    clear CZ
    clear hW hD
    go_wp2_with fail
    refine (S4 wz HW.out).out.mono ?_
    rintro e w' ⟨rfl, hb⟩
    have HW2 := Lib.hid (HW.out.call hb)
    clear hb
    go_wp2_with fail
    exact HRR.out _ HW2.out
  case hnp => rfl
  case hv => first | exact ⟨_, fun _ => rfl⟩ | exact ⟨undef, fun _ => rfl⟩
  iterate 5
    (apply obl_det
     case hrun =>
       intro D y wz hW hD R hR
       have HRR := Lib.hid hR
       clear hR
       have HW := Lib.hid hW
       have CZ := C3.out.call HW.out.bel
       have z0 := CZ.cell 1 rfl 0
       have z1 := CZ.cell 1 rfl 1
       have z2 := CZ.cell 1 rfl 2
       have z3 := CZ.cell 0 rfl 1
       have z4 := (HW.out.bel.cell (p := ⟨g kt, 1, none⟩) HGK.out).trans HVB.out
       have hz5 := Nat.lt_of_lt_of_le (C3.out.lt 1 rfl) HW.out.bel.size
       clear CZ
       clear hW hD
       go_wp2
       exact HRR.out _ HW.out
     case hnp => rfl
     case hv => first | exact ⟨_, fun _ => rfl⟩ | exact ⟨undef, fun _ => rfl⟩)
  apply obl_det
  case hrun =>
    intro D y wz hW hD R hR
    have HRR := Lib.hid hR
    clear hR
    have HW := Lib.hid hW
    have CZ := C3.out.call HW.out.bel
    have z0 := CZ.cell 1 rfl 0
    have z1 := CZ.cell 1 rfl 1
    have z2 := CZ.cell 1 rfl 2
    have z3 := CZ.cell 0 rfl 1
    have z4 := (HW.out.bel.cell (p := ⟨g kt, 1, none⟩) HGK.out).trans HVB.out
    have hz5 := Nat.lt_of_lt_of_le (C3.out.lt 1 rfl) HW.out.bel.size
    clear CZ
    clear hW hD
    go_wp2_with fail
    refine (S5 wz HW.out).out.mono ?_
    rintro e w' ⟨rfl, hb⟩
    have HW2 := Lib.hid (HW.out.call hb)
    clear hb
    go_wp2_with fail
    exact HRR.out _ HW2.out
  case hnp => rfl
  case hv => first | exact ⟨_, fun _ => rfl⟩ | exact ⟨undef, fun _ => rfl⟩
  apply obl_det
  case hrun =>
    intro D y wz hW hD R hR
    have HRR := Lib.hid hR
    clear hR
    have HW := Lib.hid hW
    have CZ := C3.out.call HW.out.bel
    have z0 := CZ.cell 1 rfl 0
    have z1 := CZ.cell 1 rfl 1
    have z2 := CZ.cell 1 rfl 2
    have z3 := CZ.cell 0 rfl 1
    have z4 := (HW.out.bel.cell (p := ⟨g kt, 1, none⟩) HGK.out).trans HVB.out
    have hz5 := Nat.lt_of_lt_of_le (C3.out.lt 1 rfl) HW.out.bel.size
    clear CZ
    clear hW hD
    go_wp2
    exact HRR.out _ HW.out
  case hnp => rfl
  case hv => first | exact ⟨_, fun _ => rfl⟩ | exact ⟨undef, fun _ => rfl⟩
  apply obl_nil
  intro D y w8 hall hW
  clear hall
  have C4 := Lib.hid (C3.out.call hW.bel)
  have HA4 := Lib.hid (HA3.out.call hW.bel)
  have HBW := Lib.hid hW.bel
  clear hW
  clear hq1 hq2 S3 S4 S5 ERR
  have HN8 := Lib.hid (block_keep HN3.out HBW.out)
  have HN0G : Hid (w.heap.size + 1 + 1 < w2.heap.size) := HN2L.out
  have c11 := cell_of_row _ _ 0 _ _ _ HN8.out
  simp only [Exit.then]
  have hmk := fun w => run_made w s.things.length (by omega)
  have C5 := Lib.hid (C4.out.alloc (.cells (ints (List.replicate s.things.length 0)) 3))
  have HMB : Hid ((w8.alloc (.cells (ints (List.replicate s.things.length 0)) 3)).heap[w8.heap.size]? = some (.cells (ints (List.replicate s.things.length 0)) 3)) := heap_alloc_new _ _
  have HGM : Hid (w.heap.size + 1 + 1 < w8.heap.size) := C4.out.lt 2 rfl
  go_wp2_with (refine wpList_cell_bb rfl 36 _ _ rfl C5.out 2 (w.heap.size + 1 + 1) 0 _ 36 rfl rfl (.slice (some ⟨w8.heap.size, 0, none⟩) s.things.length s.things.length) rfl (by simp) rfl info36 ?_; intro w10 C10 hb10)
  have CX := Lib.hid C10
  have HSX : Hid (w8.heap.size < w10.heap.size) := by have := hb10.size; unfold Hid; simp at this; omega
  have HAX : Hid (Below w8.heap.size w8 w8) := Below.refl _ _
  have HM10 : Hid (w10.heap[w8.heap.size]? = some (.cells (ints (List.replicate s.things.length 0)) 3)) := (hb10.block _ (block_lt HMB.out) (by have := HGM.out; omega)).trans HMB.out
  have HAL10 : Hid (∀ b, b < w8.heap.size → b ≠ w.heap.size + 1 + 1 → w10.heap[b]? = w8.heap[b]?) := fun b h1 h2 => (hb10.block b (by simp; omega) h2).trans (((Below.refl w8.heap.size w8).alloc (Nat.le_refl _) _).block b h1)
  clear hmk c11 C10 hb10 HMB C5 HAX
  have CELLX : Hid (∀ b j, b < w8.heap.size → b ≠ w.heap.size + 1 + 1 → w10.cell? ⟨b, j, none⟩ = w8.cell? ⟨b, j, none⟩) := fun b j h1 h2 => World.cell?_of_block (HAL10.out b h1 h2)
  have HWL : Hid (w.heap.size ≤ w8.heap.size) := C4.out.bel.size
  have HBX := Lib.hid C0.out.bel
  have HGE : Hid (w.heap.size + 1 + 1 + 1 ≤ g kt) := by have := HA4.out.ge kt hkt; simp at this; unfold Hid; omega
  have HGLT : Hid (g kt < w8.heap.size) := block_lt (HA4.out.obj kt hkt)
  have HG0 := Lib.hid (C0.out.get 2 rfl)
  have OBJ : Hid (∀ j, j < 25 → w10.cell? ⟨g kt, j, none⟩ = (bo kt).c[j]?) := fun j _ => (CELLX.out _ _ HGLT.out (by have := HGE.out; omega)).trans (cell_of_row _ _ _ _ _ _ (HA4.out.obj kt hkt))
  have hnt1 := HOK.out.sh.nt1
  obtain ⟨fb, fo, fc, hfv, hfc, hfb, hf⟩ := HBO.out.2.2.row (by rw [HBG.out.alen]; omega)
  rw [HBG.out.alen] at hfv hfc hf
  have hfne : fb ≠ w.heap.size + 1 + 1 := not_box HG0.out (hf 0 (by omega)).1
  have hfb8 : fb < w8.heap.size := Nat.lt_of_lt_of_le hfb HA4.out.le
  have HF : Hid (∀ i, i < s.things.length → w10.cell? ⟨fb, fo + i * 2, none⟩ = some (.int .i64 ((l.getD kt default).added.getD i (0, 0)).1) ∧ w10.cell? ⟨fb, fo + i * 2 + 1, none⟩ = some (.int .i64 ((l.getD kt default).added.getD i (0, 0)).2)) := fun i hi =>
    ⟨(CELLX.out _ _ hfb8 hfne).trans ((HA4.out.bel.cell (p := ⟨fb, _, none⟩) hfb).trans (hf i hi).1), (CELLX.out _ _ hfb8 hfne).trans ((HA4.out.bel.cell (p := ⟨fb, _, none⟩) hfb).trans (hf i hi).2)⟩
  have HPS0 : Hid (PS w8.heap.size w10 w8.heap.size w10.heap.size (List.replicate s.things.length 0) false (w10.alloc (.cells #[.bool false] 4))) :=
    ⟨(Below.refl _ _).alloc (Nat.le_of_lt HSX.out) _, by have := HSX.out; simp; omega, block_keep HM10.out ((Below.refl _ _).alloc (Nat.le_refl _) _), heap_alloc_new _ _, by have := HSX.out; omega, Nat.le_refl _, Nat.le_of_lt HSX.out⟩
  have HGMC : Hid (w10.cell? ⟨w.heap.size + 1 + 1, 0, none⟩ = some (.slice (some ⟨w8.heap.size, 0, none⟩) s.things.length s.things.length)) := by unfold Hid; rw [CX.out.cell 2 rfl]; rfl
  have hld : Hid (x.added.length = s.things.length) := HL3.out.trans (by simpa using HR3.out)
  have HIN : Hid (IntsIn .i64 w8.heap.size w10 (.slice za n3 zc) x.added) := (HX.out.2.2.below CX.out.bel).mono HWL.out
  have o2 : w10.cell? ⟨g kt, 2, none⟩ = some (.slice (some ⟨fb, fo, none⟩) s.things.length fc) := by rw [OBJ.out 2 (by omega), ← hfv]; rfl
  obtain ⟨w11, hw11⟩ : ∃ y, w10.alloc (.cells #[.bool false] 4) = y := ⟨_, rfl⟩
  rw [hw11] at HPS0 ⊢
  have hb11 : Below w10.heap.size w10 w11 := by rw [← hw11]; exact (Below.refl _ _).alloc (Nat.le_refl _) _
  have hglt10 : g kt < w10.heap.size := Nat.lt_trans HGLT.out HSX.out
  have o2 := (hb11.cell (p := ⟨g kt, 2, none⟩) hglt10).trans o2
  have z2 := (hb11.cell (p := ⟨w.heap.size + 1, 2, none⟩) (CX.out.lt 1 rfl)).trans (CX.out.cell 1 rfl 2)
  clear hw11 hb11
  go_still_tail 8, (by kernel_rfl)
  change wpList _ _ _ _ _ (w11.drewN 1)
  go_wp2_with fail
  refine (pour71 w8.heap.size w10 w8.heap.size w10.heap.size (w.heap.size + 1 + 1) (List.replicate s.things.length 0) false 1000 x.added (fun t => (l.getD kt default).added.getD t (0, 0)) (.slice za n3 zc) fb fo fc s.things.length _ (HPS0.out.drew 1) (by simp) hld.out hnt5 hfc HGM.out HGMC.out HIN.out hfb8 HF.out).mono ?_
  rintro e w12 ⟨⟨v12, rfl⟩, hps⟩
  have HPS1 : Hid (PS w8.heap.size w10 w8.heap.size w10.heap.size (mL s (l.getD kt default) x 0) (bL s (l.getD kt default) x 0) w12) := hps
  clear hps HPS0 o2 z2
  have z0 := (HPS1.out.bel.cell (p := ⟨w.heap.size + 1, 0, none⟩) (by have := C4.out.lt 1 rfl; exact this)).trans (CX.out.cell 1 rfl 0)
  have HLQ1 : Hid (n1 = nl) := HQ1.out
  have HLQ2 : Hid (n2 = nb) := HQ2.out
  have hnl1 := HOK.out.sh.nl1
  rw [HL4.out] at hnl1
  obtain ⟨gb, go, gc, hgv, hgb, hg⟩ := ints_row HBO.out.1 (by rw [HBG.out.glen, HL4.out]; omega)
  have hgne : gb ≠ w.heap.size + 1 + 1 := not_box HG0.out (by have := hg 0 (by rw [HBG.out.glen, HL4.out]; omega); exact this)
  rw [HBG.out.glen, HL4.out] at hgv hg
  have hgb8 : gb < w8.heap.size := Nat.lt_of_lt_of_le hgb HA4.out.le
  have HGR : Hid (∀ i, i < nl → w10.cell? ⟨gb, go + i, none⟩ = some (.int .i64 ((l.getD kt default).grams.getD i 0))) := fun i hi =>
    (CELLX.out _ _ hgb8 hgne).trans ((HA4.out.bel.cell (p := ⟨gb, _, none⟩) hgb).trans (hg i hi))
  have OV : Hid (w10.cell? ⟨g kt, 0, none⟩ = some (.slice (some ⟨gb, go, none⟩) nl gc)) := by unfold Hid; rw [OBJ.out 0 (by omega), ← hgv]; rfl
  clear hgv hg hf hfv hgne hfne
  have UP : Hid (∀ wr, Below w8.heap.size w10 wr → ∀ b j, b < w.heap.size → wr.cell? ⟨b, j, none⟩ = w.cell? ⟨b, j, none⟩) := fun wr hb b j h => (hb.cell (p := ⟨b, j, none⟩) (Nat.lt_of_lt_of_le h HWL.out)).trans (CX.out.bel.cell (p := ⟨b, j, none⟩) h)
  go_wp2_with fail
  go_loopw [97] (fun iv wr => ∃ i : Nat, iv = .int .i64 i ∧ i ≤ n1 ∧ PS w8.heap.size w10 w8.heap.size w10.heap.size (mL s (l.getD kt default) x i) (bL s (l.getD kt default) x i) wr) (fun iv _ => n1 - (intOf iv).toNat)
  case atStart => exact ⟨0, rfl, by omega, HPS1.out⟩
  case round =>
    obtain ⟨i, rfl, hi, hP⟩ := hrel
    have HP := Lib.hid hP
    clear hP z0
    by_cases hlt : i < n1
    · obtain ⟨xb, xo, hxe, hxb, u, hxc, hu⟩ := HX.out.1.at' (show i < x.lots.length by rw [HL1.out]; exact hlt)
      subst hxe
      have hinl : i < nl := by have := HLQ1.out; omega
      have hul := any_len HR4.out (show i < x.lots.length by rw [HL1.out]; exact hlt)
      have HUL := Lib.hid hul
      have HU : Hid (IntsIn .i64 w8.heap.size w10 u (x.lots.getD i [])) := (hu.below CX.out.bel).mono HWL.out
      obtain ⟨ua, uc, hue, -⟩ := ints_shape hu
      have hxc := (UP.out wr HP.out.bel _ _ hxb).trans hxc
      simp only [rdInts, Nat.mul_one] at hxc
      rw [show (x.lots.getD i (default : List Int)) = x.lots.getD i [] from rfl, hul] at hue
      subst hue
      obtain ⟨lb, lof, hle, hlb, -, -, q, y2, hq⟩ := HV.out.2.at' (show i < s.lots.length by rw [HL4.out]; exact hinl)
      subst hle
      have hplen := HOK.out.sh.plen i (by rw [HL4.out]; exact hinl)
      obtain ⟨qb, qo, qc, hqe, hqc, hqb, hqf⟩ := hq.row (by rw [hplen]; omega)
      rw [hplen] at hqe hqc hqf
      subst hqe
      have y2 := (UP.out wr HP.out.bel _ _ hlb).trans y2
      simp only [rdLot] at y2
      have HQF : Hid (∀ j, j < s.things.length → w10.cell? ⟨qb, qo + j * 2, none⟩ = some (.int .i64 ((s.lots.getD i default).parts.getD j (0, 0)).1) ∧ w10.cell? ⟨qb, qo + j * 2 + 1, none⟩ = some (.int .i64 ((s.lots.getD i default).parts.getD j (0, 0)).2)) := fun j hj =>
        ⟨(CX.out.bel.cell (p := ⟨qb, _, none⟩) hqb).trans (hqf j hj).1, (CX.out.bel.cell (p := ⟨qb, _, none⟩) hqb).trans (hqf j hj).2⟩
      have o0 := (HP.out.bel.cell (p := ⟨g kt, 0, none⟩) HGLT.out).trans OV.out
      have o1 := (HP.out.bel.cell (p := ⟨gb, _, none⟩) hgb8).trans (HGR.out i hinl)
      have z1 := (HP.out.bel.cell (p := ⟨w.heap.size, 1, none⟩) (show w.heap.size < w8.heap.size from C4.out.lt 0 rfl)).trans (CX.out.cell 0 rfl 1)
      have HPO := Lib.hid (pour71 w8.heap.size w10 w8.heap.size w10.heap.size (w.heap.size + 1 + 1) (mL s (l.getD kt default) x i) (bL s (l.getD kt default) x i) ((l.getD kt default).grams.getD i 0) (x.lots.getD i []) (fun t => (s.lots.getD i default).parts.getD t (0, 0)) (.slice ua s.things.length uc) qb qo qc s.things.length (wr.drewN 1) (HP.out.drew 1) (mL_length _ _ _ _) HUL.out hnt5 hqc HGM.out HGMC.out HU.out (Nat.lt_of_lt_of_le hqb HWL.out) HQF.out)
      clear hu hul hq hqf hplen
      generalize hng : (l.getD kt default).grams.getD i 0 = n at *
      have HNG := Lib.hid hng
      clear hng
      have hin1 : (i : Int) < (n1 : Int) := by omega
      have hinl2 : (i : Int) < (nl : Int) := by omega
      go_wp2_with fail
      go_still_tail 16, (by kernel_rfl)
      change wpList _ _ _ _ _ (wr.drewN 1)
      go_wp2_with fail
      refine HPO.out.mono ?_
      rintro e w13 ⟨⟨v13, rfl⟩, hps⟩
      have HPN : Hid (PS w8.heap.size w10 w8.heap.size w10.heap.size (mL s (l.getD kt default) x (i + 1)) (bL s (l.getD kt default) x (i + 1)) w13) := by
        have := hps
        rw [← HNG.out] at this
        unfold Hid mL bL
        exact this
      clear hps HPO hxc y2 o0 o1 z1
      go_wp2_with fail
      refine ⟨⟨i + 1, by push_cast; rfl, by omega, HPN.out⟩, ?_⟩
      simp [intOf]
      omega
    · obtain rfl : i = n1 := by omega
      have z1 := (HP.out.bel.cell (p := ⟨w.heap.size + 1, 1, none⟩) (show w.heap.size + 1 < w8.heap.size from C4.out.lt 1 rfl)).trans (CX.out.cell 1 rfl 1)
      have HP2 : Hid (PS w8.heap.size w10 w8.heap.size w10.heap.size (mB s (l.getD kt default) x 0) (bB s l (l.getD kt default) x 0) wr) := by
        have := HP.out
        unfold Hid mB bB
        rw [HL4.out, ← HLQ1.out]
        exact this
      clear HP
      go_wp2_with fail
      clear z1
      go_loopw [123] (fun jv wr => ∃ j : Nat, jv = .int .i64 j ∧ j ≤ n2 ∧ PS w8.heap.size w10 w8.heap.size w10.heap.size (mB s (l.getD kt default) x j) (bB s l (l.getD kt default) x j) wr) (fun jv _ => n2 - (intOf jv).toNat)
      case atStart => exact ⟨0, rfl, by omega, HP2.out⟩
      case round =>
        obtain ⟨j, rfl, hj, hP⟩ := hrel
        have HP := Lib.hid hP
        clear hP HP2
        by_cases hlt : j < n2
        · obtain ⟨xb, xo, hxe, hxb, u, hxc, hu⟩ := HX.out.2.1.at' (show j < x.back.length by rw [HL2.out]; exact hlt)
          subst hxe
          have hjnb : j < nb := by have := HLQ2.out; omega
          have hbl := HBG.out.blen
          rw [HL5.out] at hbl
          have hjk : j < kt := by omega
          have hjl : j < l.length := by omega
          have hul := any_len HR5.out (show j < x.back.length by rw [HL2.out]; exact hlt)
          have HUL := Lib.hid hul
          have HU : Hid (IntsIn .i64 w8.heap.size w10 u (x.back.getD j [])) := (hu.below CX.out.bel).mono HWL.out
          obtain ⟨ua, uc, hue, -⟩ := ints_shape hu
          have hxc := (UP.out wr HP.out.bel _ _ hxb).trans hxc
          simp only [rdInts, Nat.mul_one] at hxc
          rw [show (x.back.getD j (default : List Int)) = x.back.getD j [] from rfl, hul] at hue
          subst hue
          obtain ⟨cb, co, cc, hcv, hcb, hcc⟩ := ints_row HBO.out.2.1 (by rw [HL5.out]; omega)
          have hcne : cb ≠ w.heap.size + 1 + 1 := not_box HG0.out (by have := hcc 0 (by rw [HL5.out]; omega); exact this)
          rw [HL5.out] at hcv hcc
          have hcb8 : cb < w8.heap.size := Nat.lt_of_lt_of_le hcb HA4.out.le
          have o1 := (HP.out.bel.cell (p := ⟨cb, _, none⟩) hcb8).trans ((CELLX.out _ _ hcb8 hcne).trans ((HA4.out.bel.cell (p := ⟨cb, _, none⟩) hcb).trans (hcc j hjnb)))
          have o0 : wr.cell? ⟨g kt, 1, none⟩ = some (.slice (some ⟨cb, co, none⟩) nb cc) := by rw [HP.out.bel.cell (p := ⟨g kt, 1, none⟩) HGLT.out, OBJ.out 1 (by omega), ← hcv]; rfl
          obtain ⟨pb', pc', he', -, hpb', hcell'⟩ := HA4.out.ptr hjl
          cases he'
          have hpne : pb ≠ w.heap.size + 1 + 1 := not_box' (C4.out.get 2 rfl) hcell'
          have o2 := (HP.out.bel.cell (p := ⟨pb, _, none⟩) hpb').trans ((CELLX.out _ _ hpb' hpne).trans hcell')
          have hgj8 : g j < w8.heap.size := block_lt (HA4.out.obj j hjl)
          have hgjne : g j ≠ w.heap.size + 1 + 1 := by have := HA4.out.ge j hjl; simp at this; omega
          have HQF : Hid (∀ i, i < s.things.length → w10.cell? ⟨g j, 15 + i * 2, none⟩ = some (.int .i64 (parV s l j i).1) ∧ w10.cell? ⟨g j, 15 + i * 2 + 1, none⟩ = some (.int .i64 (parV s l j i).2)) := fun i hi =>
            ⟨(CELLX.out _ _ hgj8 hgjne).trans (HA4.out.plo hjl (by omega)), (CELLX.out _ _ hgj8 hgjne).trans (HA4.out.phi hjl (by omega))⟩
          have hn0 : w2.heap.size < w8.heap.size := block_lt HN8.out
          have hn0ne : w2.heap.size ≠ w.heap.size + 1 + 1 := by have := HN0G.out; omega
          have o3 := (HP.out.bel.cell (p := ⟨w2.heap.size, 0, none⟩) hn0).trans ((CELLX.out _ _ hn0 hn0ne).trans (cell_of_row _ _ 0 _ _ _ HN8.out))
          have HPO := Lib.hid (pour71 w8.heap.size w10 w8.heap.size w10.heap.size (w.heap.size + 1 + 1) (mB s (l.getD kt default) x j) (bB s l (l.getD kt default) x j) ((l.getD kt default).back.getD j 0) (x.back.getD j []) (parV s l j) (.slice ua s.things.length uc) (g j) 15 5 s.things.length (wr.drewN 1) (HP.out.drew 1) (mB_length _ _ _ _) HUL.out hnt5 hnt5 HGM.out HGMC.out HU.out hgj8 HQF.out)
          clear hu hul hcv hcc hcell' hpb'
          generalize hng : (l.getD kt default).back.getD j 0 = n at *
          have HNG := Lib.hid hng
          clear hng
          have hjn2 : (j : Int) < (n2 : Int) := by omega
          have hjnb2 : (j : Int) < (nb : Int) := by omega
          have hjl2 : (j : Int) < (l.length : Int) := by omega
          have hnt52 : (s.things.length : Int) ≤ 5 := by omega
          go_wp2_with fail
          go_still_tail 18, (by kernel_rfl)
          change wpList _ _ _ _ _ (wr.drewN 1)
          go_wp2_with fail
          refine HPO.out.mono ?_
          rintro e w13 ⟨⟨v13, rfl⟩, hps⟩
          have HPN : Hid (PS w8.heap.size w10 w8.heap.size w10.heap.size (mB s (l.getD kt default) x (j + 1)) (bB s l (l.getD kt default) x (j + 1)) w13) := by
            have := hps
            rw [← HNG.out] at this
            unfold Hid mB bB
            exact this
          clear hps HPO hxc o0 o1 o2 o3
          go_wp2_with fail
          refine ⟨⟨j + 1, by push_cast; rfl, by omega, HPN.out⟩, ?_⟩
          simp [intOf]
          omega
        · obtain rfl : j = n2 := by omega
          have HBAD := Lib.hid (made_bad (s := s) (l := l) (k := kt) x)
          have HGOOD : Hid (bB s l (l.getD kt default) x (l.getD kt default).back.length = false → mB s (l.getD kt default) x (l.getD kt default).back.length = (List.range s.things.length).map (madeT s (l.getD kt default) x)) := fun h => made_good HOK.out hkt x h
          rw [HL5.out, ← HLQ2.out] at HBAD HGOOD
          have HLENS : Hid (lensB s (l.getD kt default) x = true) := by
            unfold Hid
            rw [HLB.out, all_any, all_any x.back, HR4.out, HR5.out, HLQ1.out, HLQ2.out, show decide (n3 = s.things.length) = true by simpa using HR3.out]
            simp
          have hbb := cell_of_row _ _ 0 _ _ _ HP.out.c2
          obtain ⟨rb, hrb⟩ : ∃ r, bB s l (l.getD kt default) x j = r := ⟨_, rfl⟩
          rw [hrb] at HBAD HGOOD hbb
          have HPF := HP.out
          rw [hrb] at HPF
          have HPQ := Lib.hid HPF
          clear HP HPF hrb
          have CF : Hid (Bs w [(w.heap.size + 1 + 1, .cells #[.slice (some ⟨w8.heap.size, 0, none⟩) s.things.length s.things.length] 36)] wr) :=
            ⟨fun p hp => by
              simp only [List.mem_singleton] at hp
              subst hp
              exact (HPQ.out.bel.block _ HGM.out).trans (CX.out.get 2 rfl), by simp, fun p hp => by simp only [List.mem_singleton] at hp; subst hp; simp; omega, CX.out.bel.trans (HPQ.out.bel.mono HWL.out)⟩
          cases rb
          case true =>
            have HE9 : Hid (madeE s l (kt : Int) x = 7) := by
              have hall : (List.range s.things.length).all (truthIn s l (rangesV s l) (l.getD kt default) x) = false := by
                have := HBAD.out
                revert this
                cases (List.range s.things.length).all (truthIn s l (rangesV s l) (l.getD kt default) x) <;> intro h <;> first | rfl | cases h
              unfold Hid
              rw [HME.out, HTE.out, HLENS.out, hall]
              rfl
            go_wp2_with (refine wpList_cell_bs rfl 36 _ _ rfl CF.out 0 (w.heap.size + 1 + 1) 0 _ 36 rfl rfl (.slice none 0 0) rfl (by simp) rfl info36 ?_; intro w14 C14)
            refine bodyPost_ret (v := .tuple #[.slice none 0 0, .int .i64 7]) ?_ rfl ?_
            · rw [results_c36_tmp rfl _ _ (w.heap.size + 1 + 1) (.slice none 0 0) rfl (by rw [C14.cell 0 rfl]; rfl)]
              rfl
            · refine ⟨_, by rw [HE9.out], ?_, C14.bel⟩
              rw [HMV.out, HE9.out, if_pos (by decide)]
              exact IntsIn.nil _ _
          case false =>
            have HE9 : Hid (madeE s l (kt : Int) x = 0) := by
              have hall : (List.range s.things.length).all (truthIn s l (rangesV s l) (l.getD kt default) x) = true := by
                have := HBAD.out
                revert this
                cases (List.range s.things.length).all (truthIn s l (rangesV s l) (l.getD kt default) x) <;> intro h <;> first | rfl | cases h
              unfold Hid
              rw [HME.out, HTE.out, HLENS.out, hall]
              rfl
            have hgmc := CF.out.cell 0 rfl 0
            go_wp2_with (refine wpList_cell_bb rfl 36 _ _ rfl CF.out 0 (w.heap.size + 1 + 1) 0 _ 36 rfl rfl (.slice (some ⟨w8.heap.size, 0, none⟩) s.things.length s.things.length) rfl (by simp) rfl info36 ?_; intro w14 C14 hb14)
            refine bodyPost_ret (v := .tuple #[.slice (some ⟨w8.heap.size, 0, none⟩) s.things.length s.things.length, .int .i64 0]) ?_ rfl ?_
            · rw [results_c36_tmp rfl _ _ (w.heap.size + 1 + 1) (.slice (some ⟨w8.heap.size, 0, none⟩) s.things.length s.things.length) rfl (by rw [C14.cell 0 rfl]; rfl)]
              rfl
            · refine ⟨_, by rw [HE9.out], ?_, C14.bel⟩
              rw [HMV.out, HE9.out, if_neg (fun h => h rfl), ← HGOOD.out (by first | rfl | trivial)]
              have hm := mB_length s (l.getD kt default) x j
              have hrow := (hb14.block _ (block_lt HPQ.out.c1) (by have := HGM.out; omega)).trans HPQ.out.c1
              refine ⟨_, s.things.length, by rw [hm], by omega, .inr ⟨w8.heap.size, 0, rfl, block_lt hrow, fun i hi => ?_⟩⟩
              rw [cell_of_row _ _ _ _ _ _ hrow, Nat.zero_add, ints_get _ _ hi]
end Go.Proofs.Ytaigbhhmmdfdcaa
/- scent.of: the iterator over the things of a kind. -/
namespace Go.Proofs.Ytaigbhhmmdfdcaa
open Go.RowKit Go.Shelf
attribute [local go_sem] Oper.semAt_some
/-- What a round keeps: the blocks that the iterator has. -/
structure MiK (B bm bo : Nat) (W W' : World) : Prop where
  size : W.heap.size ≤ W'.heap.size
  own : ∀ k cs t fr, B ≤ k → W.heap[k]? = some (.cells cs t fr) → W'.heap[k]? = some (.cells cs t fr)
  m : W'.heap[bm]? = W.heap[bm]?
  o : W'.heap[bo]? = W.heap[bo]?
theorem MiK.t {B bm bo : Nat} {X Y Z : World} (h : MiK B bm bo X Y) (k : MiK B bm bo Y Z) : MiK B bm bo X Z :=
  ⟨Nat.le_trans h.size k.size, fun i cs t fr hB hi => k.own i cs t fr hB (h.own i cs t fr hB hi), k.m.trans h.m, k.o.trans h.o⟩
theorem MiK.b {B bm bo : Nat} (hm : bm < B) (ho : bo < B) (W : World) (l : Nat) (o o' : Obj) (hl : B ≤ l) (h : W.heap[l]? = some o) (hc : o.isCells = false) : MiK B bm bo W (W.putObj l o') := by
  refine ⟨by simp [World.putObj], fun k cs t fr _ hk => ?_, World.putObj_heap_other (by omega), World.putObj_heap_other (by omega)⟩
  by_cases e : k = l
  · subst e
    rw [h] at hk
    cases hk
    simp [Obj.isCells] at hc
  · exact (World.putObj_heap_other e).trans hk
theorem MiK.below {B bm bo : Nat} {W W' : World} (hm : bm < W.heap.size) (ho : bo < W.heap.size) (h : Below W.heap.size W W') : MiK B bm bo W W' :=
  ⟨h.size, fun _ _ _ _ _ hk => block_keep hk h, h.block _ hm, h.block _ ho⟩
/-- A store below B. -/
theorem MiK.setRow {B bm bo X : Nat} (hX : X < B) (hm : bm ≠ X) (ho : bo ≠ X) (W : World) (cs : Array Value) : MiK B bm bo W (W.setRow X cs) :=
  ⟨by simp, fun k _ _ _ hk h => (setRow_other W X k cs (by omega)).trans h, setRow_other W X bm cs hm, setRow_other W X bo cs ho⟩

/-- What the iterator hands on: the index and the thing. -/
def encT (l : List Thing) (i : Nat) : Array Value := #[.int .i64 i, .agg #[.string (l.getD i default).name, .int .i64 (l.getD i default).kind, .int .i64 (l.getD i default).limit, .int .i64 (l.getD i default).weak, .int .i64 (l.getD i default).fade]]
/-- The first things of a kind. -/
def filtK (l : List Thing) (K : Int) (k : Nat) : List Nat := (List.range k).filter fun i => (l.getD i default).kind == K
theorem filtK_succ (l : List Thing) (K : Int) (k : Nat) : filtK l K (k + 1) = if ((l.getD k default).kind == K) = true then filtK l K k ++ [k] else filtK l K k := by
  unfold filtK
  rw [List.range_succ, List.filter_append]
  simp only [List.filter_cons, List.filter_nil]
  split <;> simp
theorem filtK_length (l : List Thing) (K : Int) (k : Nat) : (filtK l K k).length ≤ k := by
  have := List.length_filter_le (fun i => (l.getD i default).kind == K) (List.range k)
  simpa [filtK] using this
theorem of_any (K : Int) (vt vl : Value) (w : World) (ht : ∃ a n c, vt = .slice a n c) (hl : ∃ a n c, vl = .slice a n c) : Calls Try.prog 75 #[.agg #[vt, vl], .int .i64 K] w
    fun e w' => e = .returned (.func (.func 101) #[] #[.pointer (some ⟨w.heap.size, 0, none⟩), .pointer (some ⟨w.heap.size + 1, 0, none⟩)]) ∧
      w' = (w.alloc (.cells #[vt, vl] 25)).alloc (.cells #[.int .i64 K] 3) := by
  obtain ⟨a, n, c, rfl⟩ := ht
  obtain ⟨a2, n2, c2, rfl⟩ := hl
  go_enter Try.func75, Try.ntmps75
  go_wp2
  go_ret
  exact ⟨rfl, rfl⟩
set_option maxRecDepth 100000 in
set_option maxHeartbeats 8000000 in
theorem of1_gives {α : Type} (encs : α → Array Value) (day : Nat → α) (l : List Thing) (K : Int) (n : Nat) (hn : 1 ≤ n) (h5 : l.length ≤ 5) (bs bk tb tof tc : Nat) (vl : Value) (w : World) (hbs : w.heap[bs]? = some (.cells #[.slice (some ⟨tb, tof, none⟩) l.length tc, vl] 25)) (hbk : w.heap[bk]? = some (.cells #[.int .i64 K] 3))
    (htb : tb < w.heap.size) (hlc : l.length ≤ tc) (hT : ∀ i, i < l.length → rdThing.rd w.heap.size w tb (tof + i * 5) (l.getD i default)) (hen : ∀ i, i < l.length → encs (day i) = encT l i) :
    IterGives Fence.wide n Try.prog 101 #[.pointer (some ⟨bs, 0, none⟩), .pointer (some ⟨bk, 0, none⟩)] encs (MiK w.heap.size tb bk) (fun xs => xs = (filtK l K l.length).map day) (fun _ => True) 5 w := by
  intro lp J Jx W hWb hJ hJx hY h0
  have HY := Lib.hid hY
  have HDY := Lib.hid hen
  clear hen
  have HJ := Lib.hid hJ
  have hbsW := block_keep hbs hWb
  have hbkW := block_keep hbk hWb
  have HT : Hid (∀ i, i < l.length → rdThing.rd w.heap.size W tb (tof + i * 5) (l.getD i default)) := fun i hi => rdThing.below htb hWb (hT i hi)
  have HBK := Lib.hid hbkW
  have hbkl : bk < W.heap.size := block_lt hbkW
  have htbl : tb < W.heap.size := Nat.lt_of_lt_of_le htb hWb.size
  have hwW := hWb.size
  have c0 := cell_of_row _ _ 0 _ _ _ hbsW
  have hbsl := block_lt hbsW
  have HJ0 := Lib.hid h0
  clear hY hJ hJx hbs hbk hbsW hbkW hWb hT h0
  obtain ⟨nt, HNT⟩ : ∃ k, Hid (l.length = k) := ⟨_, rfl⟩
  rw [HNT.out] at h5 hlc c0 HT HDY ⊢
  refine callsIn_of_wp Try.func101 rfl trivial ?_ rfl
  simp only [Try.ntmps101, List.size_toArray, List.length_cons, List.length_nil, Nat.reduceAdd, Nat.reduceSub, Array.replicate_succ, Array.replicate_zero, List.push_toArray, List.append_toArray, List.nil_append, List.cons_append]
  gi_wp2_with fail
  gi_loopw [9] (fun iv wr => ∃ i : Nat, i ≤ nt ∧ iv = .int .i64 i ∧ J ((filtK l K i).map day) wr ∧ wr.heap[tb]? = W.heap[tb]? ∧ wr.heap[bk]? = W.heap[bk]? ∧ W.heap.size ≤ wr.heap.size) (fun iv _ => nt - (intOf iv).toNat)
  case atStart => exact ⟨0, by omega, rfl, HJ0.out, rfl, rfl, Nat.le_refl _⟩
  case round =>
    obtain ⟨i, hi, rfl, hJi, htbi, hbki, hszi⟩ := hrel
    have HJI := Lib.hid hJi
    have HTI := Lib.hid htbi
    have HKI := Lib.hid hbki
    clear hJi htbi hbki c0
    by_cases hlt : i < nt
    · have up : ∀ j, wr.cell? ⟨tb, j, none⟩ = W.cell? ⟨tb, j, none⟩ := fun j => World.cell?_of_block HTI.out
      obtain ⟨x1, x2, x3, x4, x5, -⟩ := HT.out i hlt
      have x1 := (up _).trans x1
      have x2 := (up _).trans x2
      have x3 := (up _).trans x3
      have x4 := (up _).trans x4
      have x5 := (up _).trans x5
      have k0 := cell_of_row _ _ 0 _ _ _ (HKI.out.trans HBK.out)
      have HFS := Lib.hid (filtK_succ l K i)
      have hfl := Nat.lt_of_le_of_lt (filtK_length l K i) (show i < 5 by omega)
      have HEN : Hid (encs (day i) = #[.int .i64 i, .agg #[.string (l.getD i default).name, .int .i64 (l.getD i default).kind, .int .i64 (l.getD i default).limit, .int .i64 (l.getD i default).weak, .int .i64 (l.getD i default).fade]]) := HDY.out i hlt
      have hba := (Below.refl wr.heap.size wr).alloc (Nat.le_refl _) (.cells #[.string (l.getD i default).name, .int .i64 (l.getD i default).kind, .int .i64 (l.getD i default).limit, .int .i64 (l.getD i default).weak, .int .i64 (l.getD i default).fade] 62)
      have HJA := Lib.hid (HJ.out _ _ _ HJI.out (hba.mono hszi))
      have HBA := Lib.hid hba
      clear up hba
      by_cases hK : (l.getD i default).kind = K
      · have hyx := HY.out _ (day i) _ HJA.out (by rw [List.length_map]; exact hfl) (Nat.le_trans hszi HBA.out.size)
        rw [HEN.out] at hyx
        rw [if_pos (by simpa using hK)] at HFS
        have hq : ((l.getD i default).kind == K) = true := by simpa using hK
        generalize l.getD i default = x at *
        obtain ⟨nm, kd, lm, wk, fd⟩ := x
        simp only at x1 x2 x3 x4 x5 hq hyx HJA HBA
        clear hK
        obtain ⟨fn, tmps, assign, body, hy, hR⟩ := hyx
        have hilt : (i : Int) < (nt : Int) := by omega
        have hbkr : bk < wr.heap.size := by omega
        gi_wp2_with fail
        refine hR.mono ?_
        rintro e W3 (⟨rfl, hJ3, hk3⟩ | ⟨rfl, hJx3⟩)
        · have HJ3 : Hid (J ((filtK l K (i + 1)).map day) W3) := by rw [HFS.out, List.map_append]; exact hJ3
          have HT3 : Hid (W3.heap[tb]? = W.heap[tb]?) := hk3.m.trans ((HBA.out.block tb (by omega)).trans HTI.out)
          have HK3 : Hid (W3.heap[bk]? = W.heap[bk]?) := hk3.o.trans ((HBA.out.block bk (by omega)).trans HKI.out)
          have hs3 : W.heap.size ≤ W3.heap.size := Nat.le_trans (Nat.le_trans hszi HBA.out.size) hk3.size
          clear hJ3 hk3 x1 x2 x3 x4 x5 k0 hy hR
          gi_wp2_with fail
          go_roundw
          case rel => exact ⟨i + 1, by omega, by simp, HJ3.out, HT3.out, HK3.out, hs3⟩
          case measure => simp [intOf]; omega
        · gi_wp2_with fail
          refine bodyPost_ret (results_none rfl _ _ _) rfl ?_
          exact ⟨⟨_, rfl⟩, .inr ⟨_, trivial, hJx3⟩⟩
      · rw [if_neg (by simpa using hK)] at HFS
        have hq : ((l.getD i default).kind == K) = false := by simpa using hK
        generalize l.getD i default = x at *
        obtain ⟨nm, kd, lm, wk, fd⟩ := x
        simp only at x1 x2 x3 x4 x5 hq HJA HBA
        clear hK
        have hilt : (i : Int) < (nt : Int) := by omega
        have hbkr : bk < wr.heap.size := by omega
        gi_wp2_with fail
        refine ⟨fun f hf => (by cases hf), ?_⟩
        apply_assumption
        gi_wp2_with fail
        go_roundw
        case rel =>
          refine ⟨i + 1, by omega, by simp, by rw [HFS.out]; exact HJA.out, (HBA.out.block tb (by omega)).trans HTI.out, (HBA.out.block bk (by omega)).trans HKI.out, Nat.le_trans hszi HBA.out.size⟩
        case measure => simp [intOf]; omega
    · obtain rfl : i = nt := by omega
      gi_wp2_with fail
      go_end0
      exact ⟨⟨_, rfl⟩, .inl ⟨_, rfl, HJI.out⟩⟩
end Go.Proofs.Ytaigbhhmmdfdcaa
/- The marks that ranges over a function leave behind, one for each. -/
namespace Go.Proofs.Ytaigbhhmmdfdcaa
open Go.RowKit Go.Shelf
/-- Each mark has a block of its own, from B on, that holds nothing to run. -/
def MarksOk (B : Nat) : List Deferred → World → Prop
  | [], _ => True
  | d :: ds, w => (∃ D, d = { target := .collected D, args := #[] } ∧ B ≤ D ∧ w.heap[D]? = some (.deferred (some [])) ∧ ∀ e ∈ ds, e ≠ d) ∧ MarksOk B ds w
/-- What the leaving keeps: all cells. -/
structure CellsKeep (B : Nat) (w w' : World) : Prop where
  bel : Below B w w'
  cells : ∀ (k : Nat) (cs : Array Value) (t : TypeId) (fr : Nat × Nat), w.heap[k]? = some (Obj.cells cs t fr) → w'.heap[k]? = some (Obj.cells cs t fr)
theorem CellsKeep.refl (B : Nat) (w : World) : CellsKeep B w w := ⟨Below.refl _ _, fun _ _ _ _ h => h⟩
theorem CellsKeep.trans {B : Nat} {a b c : World} (h : CellsKeep B a b) (k : CellsKeep B b c) : CellsKeep B a c := ⟨h.bel.trans k.bel, fun i cs t fr hi => k.cells i cs t fr (h.cells i cs t fr hi)⟩
theorem CellsKeep.take {B D : Nat} {w : World} (hB : B ≤ D) (h : w.heap[D]? = some (.deferred (some []))) (o : Obj) : CellsKeep B w (w.putObj D o) := by
  refine ⟨below_turn hB w o, fun k cs t fr hk => ?_⟩
  have : k ≠ D := by rintro rfl; rw [h] at hk; cases hk
  exact (World.putObj_heap_other this).trans hk
theorem MarksOk.keep {B : Nat} {w w' : World} : ∀ {ds : List Deferred}, MarksOk B ds w → (∀ d ∈ ds, ∀ D, d = { target := .collected D, args := #[] } → w.heap[D]? = some (.deferred (some [])) → w'.heap[D]? = some (.deferred (some []))) → MarksOk B ds w'
  | [], _, _ => trivial
  | d :: ds, h, hk => by
    obtain ⟨⟨D, h1, h2, h3, h4⟩, h5⟩ := h
    exact ⟨⟨D, h1, h2, hk d (by simp) D h1 h3, h4⟩, MarksOk.keep h5 (fun e he => hk e (by simp [he]))⟩
theorem leaves_marks {F : Fence} {n : Nat} {P : Program} {fn : Func} {tmps : Array Value} {R : Ending → World → Prop} {B : Nat} : ∀ {ds : List Deferred} {w : World}, MarksOk B ds w →
    (∀ w', CellsKeep B w w' → LeavesInM F n P fn tmps R [] .returning w') → LeavesInM F n P fn tmps R ds .returning w
  | [], w, _, h => h w (CellsKeep.refl _ _)
  | d :: ds, w, hm, h => by
    obtain ⟨⟨D, rfl, h2, h3, h4⟩, h5⟩ := hm
    refine ⟨by simp, .inl ⟨D, _, rfl, run_takeDeferred h3, ?_⟩⟩
    have hck := CellsKeep.take h2 h3 (.deferred none)
    refine leaves_marks (B := B) (h5.keep fun e he D' he' hD' => ?_) (fun w' hw' => h w' (hck.trans hw'))
    have hne : D' ≠ D := by
      rintro rfl
      exact h4 e he he'
    exact (World.putObj_heap_other hne).trans hD'
/-- A further mark. -/
theorem MarksOk.more {B : Nat} {ds : List Deferred} {w w' : World} {D : Nat} (h : MarksOk B ds w) (hD : w'.heap[D]? = some (.deferred (some []))) (hB : B ≤ D) (hlt : w.heap.size ≤ D) (hk : ∀ (k : Nat) (o : Obj), w.heap[k]? = some o → o.isCells = false → w'.heap[k]? = some o) : MarksOk B ({ target := .collected D, args := #[] } :: ds) w' := by
  have lt : ∀ {ds : List Deferred}, MarksOk B ds w → ∀ e ∈ ds, ∃ D', e = { target := .collected D', args := #[] } ∧ D' < w.heap.size := by
    intro ds
    induction ds with
    | nil => intro _ e he; simp at he
    | cons d ds ih =>
      intro h e he
      obtain ⟨⟨D', h1, h2, h3, h4⟩, h5⟩ := h
      rcases List.mem_cons.1 he with rfl | he
      · exact ⟨D', h1, block_lt h3⟩
      · exact ih h5 e he
  refine ⟨⟨D, rfl, hB, hD, fun e he => ?_⟩, h.keep fun e he D' he' hD' => hk _ _ hD' rfl⟩
  obtain ⟨D', rfl, hlt'⟩ := lt h e he
  intro heq
  injection heq with h1
  injection h1 with h2
  omega
end Go.Proofs.Ytaigbhhmmdfdcaa
