/- The walk of Cheapest's inner function. -/
import Derived.Test.YtddapabmfecidaaW22
import Derived.Deep.Cut
import Derived.Maps.OwnOps
namespace Go.Proofs.Ytddapabmfecidaa
open Go.RowKit

/-- The worlds of one call of rest. -/
structure RC (s : Sea) (w : World) (B bS bM bR M : Nat) (S : Array Value) (vs : Value) (X : List Int) (wr : World) : Prop where
  rS : wr.heap[bS]? = some (.cells S 75)
  rM : wr.heap[bM]? = some (.cells #[.map (some M)] 107)
  rR : wr.heap[bR]? = some (.cells #[.func (.func 47) #[] #[.pointer (some ⟨bS, 0, none⟩), .pointer (some ⟨bM, 0, none⟩), .pointer (some ⟨bR, 0, none⟩)]] 108)
  r4 : wr.heap[w.heap.size]? = some (.cells (ints X) 99)
  r5 : wr.heap[w.heap.size + 1]? = some (.cells #[.int .i64 0, .int .i64 0] 110)
  kp : Keeps w wr M
  sv : StosIn B wr vs s.stores
  hB : B ≤ M
  hM : M < w.heap.size
  nS : bS ≠ M ∧ bS < w.heap.size
  nM : bM ≠ M ∧ bM < w.heap.size
  nR : bR ≠ M ∧ bR < w.heap.size
theorem Keeps.trans {w a b : World} {X : Nat} (h : Keeps w a X) (k : Keeps a b X) : Keeps w b X :=
  ⟨k.os.trans h.os, k.tape.trans h.tape, k.output.trans h.output, Nat.le_trans h.size k.size, fun i hi hne => (k.block i (Nat.lt_of_lt_of_le hi h.size) hne).trans (h.block i hi hne)⟩
theorem RC.keeps {s : Sea} {w : World} {B bS bM bR M : Nat} {S : Array Value} {vs : Value} {X : List Int} {wr wr' : World} (h : RC s w B bS bM bR M S vs X wr) (k : Keeps wr wr' M) : RC s w B bS bM bR M S vs X wr' :=
  have h1 := h.kp.size
  have h2 := h.hM
  { h with
    rS := k.row h.rS h.nS.1, rM := k.row h.rM h.nM.1, rR := k.row h.rR h.nR.1, r4 := k.row h.r4 (by omega), r5 := k.row h.r5 (by omega), kp := h.kp.trans k
    sv := h.sv.below (k.toBelow h.hB (by have := h.hB; omega)) }
theorem RC.below {s : Sea} {w : World} {B bS bM bR M : Nat} {S : Array Value} {vs : Value} {X : List Int} {wr wr' : World} (h : RC s w B bS bM bR M S vs X wr) (k : Below wr.heap.size wr wr') : RC s w B bS bM bR M S vs X wr' :=
  h.keeps ((Keeps.refl wr M).below k)
theorem RC.setRow {s : Sea} {w : World} {B bS bM bR M : Nat} {S : Array Value} {vs : Value} {X : List Int} {wr : World} (h : RC s w B bS bM bR M S vs X wr) (Y : Nat) (hY : w.heap.size + 1 < Y) (cs : Array Value) : RC s w B bS bM bR M S vs X (wr.setRow Y cs) :=
  have h2 := h.hM
  have n1 := h.nS
  have n2 := h.nM
  have n3 := h.nR
  { h with
    rS := (setRow_other wr _ _ _ (by omega)).trans h.rS, rM := (setRow_other wr _ _ _ (by omega)).trans h.rM, rR := (setRow_other wr _ _ _ (by omega)).trans h.rR, r4 := (setRow_other wr _ _ _ (by omega)).trans h.r4, r5 := (setRow_other wr _ _ _ (by omega)).trans h.r5
    kp := ⟨h.kp.os, h.kp.tape, h.kp.output, by simpa using h.kp.size, fun i hi hne => (setRow_other wr _ _ _ (by omega)).trans (h.kp.block i hi hne)⟩
    sv := h.sv.below (below_setRow (Below.refl _ _) (by have := h.hB; omega) _) }
theorem RC.setCell {s : Sea} {w : World} {B bS bM bR M : Nat} {S : Array Value} {vs : Value} {X : List Int} {wr : World} (h : RC s w B bS bM bR M S vs X wr) (Y o : Nat) (hY : w.heap.size + 1 < Y) (v : Value) : RC s w B bS bM bR M S vs X (wr.setCell ⟨Y, o, none⟩ v) :=
  have h2 := h.hM
  have k : ∀ {b : Nat}, b < w.heap.size + 2 → (wr.setCell ⟨Y, o, none⟩ v).heap[b]? = wr.heap[b]? := fun {b} hb => heap_setCell_other _ _ _ _ (show b ≠ Y by omega)
  { h with
    rS := (k (by have := h.nS; omega)).trans h.rS, rM := (k (by have := h.nM; omega)).trans h.rM, rR := (k (by have := h.nR; omega)).trans h.rR, r4 := (k (by omega)).trans h.r4, r5 := (k (by omega)).trans h.r5
    kp := ⟨h.kp.os, h.kp.tape, h.kp.output, by simpa using h.kp.size, fun i hi hne => (k (by omega)).trans (h.kp.block i hi hne)⟩
    sv := h.sv.below ((Below.refl _ _).setCell (p := ⟨Y, o, none⟩) (by simp; have := h.hB; omega) _) }
theorem RC.drew {s : Sea} {w : World} {B bS bM bR M : Nat} {S : Array Value} {vs : Value} {X : List Int} {wr : World} (h : RC s w B bS bM bR M S vs X wr) : RC s w B bS bM bR M S vs X wr.drew := h.below (Below.refl _ wr).drew

/-- How many plans are noted down at the most. -/
def noteN : Nat → Nat
  | 0 => 0
  | r + 1 => 1 + 3 * noteN r
/-- What rest does: the answer, the map, and that nothing else is written. -/
def RestPost (s : Sea) (M n : Nat) (w : World) (r d : Nat) (st h : Int) (j : List Int) (e : Ending) (w' : World) : Prop :=
  e = .returned (planV (bestR s r d st h j)) ∧ Memo s M (n + noteN r) w' ∧ Keeps w w' M

theorem RC.start {s : Sea} {w : World} {B bS bM bR M : Nat} {S : Array Value} {vs : Value} {X : List Int}
    (hS : w.heap[bS]? = some (.cells S 75)) (hM : w.heap[bM]? = some (.cells #[.map (some M)] 107)) (hR : w.heap[bR]? = some (.cells #[.func (.func 47) #[] #[.pointer (some ⟨bS, 0, none⟩), .pointer (some ⟨bM, 0, none⟩), .pointer (some ⟨bR, 0, none⟩)]] 108))
    (hv : StosIn B w vs s.stores) (hB : B ≤ M) (hMs : M < w.heap.size) (nS : bS ≠ M) (nM : bM ≠ M) (nR : bR ≠ M) : RC s w B bS bM bR M S vs X ((w.alloc (.cells (ints X) 99)).alloc (.cells #[.int .i64 0, .int .i64 0] 110)) :=
  have hb := ((Below.refl w.heap.size w).alloc (Nat.le_refl _) (.cells (ints X) 99)).alloc (by simp) (.cells #[.int .i64 0, .int .i64 0] 110)
  ⟨block_keep hS hb, block_keep hM hb, block_keep hR hb, (Below.heap_alloc _ _ _ (by simp)).trans (heap_alloc_new _ _), by simpa using heap_alloc_new (w.alloc (.cells (ints X) 99)) (.cells #[.int .i64 0, .int .i64 0] 110),
    (Keeps.refl w M).below hb, hv.below (hb.mono (by omega)), hB, hMs, ⟨nS, block_lt hS⟩, ⟨nM, block_lt hM⟩, ⟨nR, block_lt hR⟩⟩
theorem Memo.below {s : Sea} {M n : Nat} {w w' : World} (h : Memo s M n w) (hb : Below w.heap.size w w') : Memo s M n w' := by
  obtain ⟨es, clock, h1, h2⟩ := h
  exact ⟨es, clock, block_keep h1 hb, h2⟩
theorem Memo.setRow {s : Sea} {M n : Nat} {w : World} (h : Memo s M n w) (Y : Nat) (hY : M ≠ Y) (cs : Array Value) : Memo s M n (w.setRow Y cs) := h.keep (setRow_other _ _ _ _ hY)
theorem Memo.setCell {s : Sea} {M n : Nat} {w : World} (h : Memo s M n w) (Y o : Nat) (hY : M ≠ Y) (v : Value) : Memo s M n (w.setCell ⟨Y, o, none⟩ v) := h.keep (heap_setCell_other _ _ _ _ (show M ≠ Y from hY))
theorem info110 : (Try.prog.info? 110).map (·.size) = some 2 := by kernel_rfl
theorem results_cell_110 {tmps : Array Value} {b : Nat} {w : World} {p : Int × Int} (h : w.heap[b]? = some (.cells #[.int .i64 p.1, .int .i64 p.2] 110)) (t5 : tmps.getD 5 undef = .pointer (some ⟨b, 0, none⟩)) :
    (results Try.f47 tmps).run Try.prog w = .ok (planV p) w := by
  have r := run_loadVar_row (P := Try.prog) w b 110 110 #[.int .i64 p.1, .int .i64 p.2] (0, 0) _ h Try.underlying110 rfl info110
  have t5' : tmps[5]?.getD undef = .pointer (some ⟨b, 0, none⟩) := by rw [← Array.getD_eq_getD_getElem?]; exact t5
  simp only [results, show Try.f47.results = #[.cell 5 110] from rfl]
  simp [t5', asAddr, r, planV]

set_option maxRecDepth 100000 in
set_option maxHeartbeats 4000000 in
/-- On the last day. -/
theorem rest_zero (s : Sea) (hg : Good s) (vs : Value) (B bS bM bR M n : Nat) (w : World)
    (hS : w.heap[bS]? = some (.cells #[.int .i64 s.bend, .int .i64 s.days, .int .i64 s.jump, .int .i64 s.times, .int .i64 s.move, vs] 75)) (hMr : w.heap[bM]? = some (.cells #[.map (some M)] 107)) (hR : w.heap[bR]? = some (.cells #[.func (.func 47) #[] #[.pointer (some ⟨bS, 0, none⟩), .pointer (some ⟨bM, 0, none⟩), .pointer (some ⟨bR, 0, none⟩)]] 108))
    (hv : StosIn B w vs s.stores) (hB : B ≤ M) (hMs : M < w.heap.size) (nS : bS ≠ M) (nM : bM ≠ M) (nR : bR ≠ M) (hm : Memo s M n w)
    (st h : Int) (j : List Int) :
    Calls Try.prog 47 #[.agg (ints (((s.len : Int) - 1) :: st :: h :: j)), .pointer (some ⟨bS, 0, none⟩), .pointer (some ⟨bM, 0, none⟩), .pointer (some ⟨bR, 0, none⟩)] w (RestPost s M n w 0 s.len st h j) := by
  have HG := Lib.hid hg
  have HL1 : Hid (0 < s.stores.length) := by have := hg.stores; unfold Hid; omega
  have hlen := hg.len
  have HM := Lib.hid hm
  clear hm
  have R0 : Hid (RC s w B bS bM bR M _ vs (((s.len : Int) - 1) :: st :: h :: j) _) := RC.start hS hMr hR hv hB hMs nS nM nR
  obtain ⟨a, c, rfl, hll, hlc, hvv⟩ := hv
  clear hS hMr hR hvv
  go_enter Try.func47, Try.ntmps47
  go_wp2_with fail
  refine wp_world (fun wr => RC s w B bS bM bR M #[.int .i64 s.bend, .int .i64 s.days, .int .i64 s.jump, .int .i64 s.times, .int .i64 s.move, .slice a s.stores.length c] (.slice a s.stores.length c) (((s.len : Int) - 1) :: st :: h :: j) wr ∧ Memo s M n wr) ⟨R0.out, HM.out.below (((Below.refl w.heap.size w).alloc (Nat.le_refl _) _).alloc (by simp) _)⟩ ?_
  intro w7 hw7
  have HW0 := Lib.hid hw7
  clear hw7
  refine wp_region_inv0 (by kernel_rfl) (by kernel_rfl) (fun _ w' => RC s w B bS bM bR M #[.int .i64 s.bend, .int .i64 s.days, .int .i64 s.jump, .int .i64 s.times, .int .i64 s.move, .slice a s.stores.length c] (.slice a s.stores.length c) (((s.len : Int) - 1) :: st :: h :: j) w' ∧ Memo s M n w') ⟨HW0.out.1.drew, HW0.out.2⟩ ?_
  apply obl_det
  case hrun =>
    intro D y wz hW hD R hR
    have HRR := Lib.hid hR
    clear hR hD
    have HW := Lib.hid hW
    clear hW
    go_wp2
    exact HRR.out _ HW.out
  case hnp => rfl
  case hv => first | exact ⟨_, fun _ => rfl⟩ | exact ⟨undef, fun _ => rfl⟩
  apply obl_det
  case hrun =>
    intro D y wz hW hD R hR
    have HRR := Lib.hid hR
    clear hR hD
    have HW := Lib.hid hW
    have cx := fun i => cell_of_row wz _ i _ _ _ hW.1.r4
    clear hW
    go_wp2
    exact HRR.out _ HW.out
  case hnp => rfl
  case hv => first | exact ⟨_, fun _ => rfl⟩ | exact ⟨undef, fun _ => rfl⟩
  apply obl_det
  case hrun =>
    intro D y wz hW hD R hR
    have HRR := Lib.hid hR
    clear hR hD
    have HW := Lib.hid hW
    have cs := fun i => cell_of_row wz _ i _ _ _ hW.1.rS
    clear hW
    go_wp2
    exact HRR.out _ HW.out
  case hnp => rfl
  case hv => first | exact ⟨_, fun _ => rfl⟩ | exact ⟨undef, fun _ => rfl⟩
  apply obl_det
  case hrun =>
    intro D y wz hW hD R hR
    have HRR := Lib.hid hR
    have HW := Lib.hid hW
    clear hR hD hW
    go_wp2_with (go_at_call 40; refine (seaDays_any s _ _ (HW.out.1.sv.mono (by have h1 := HW.out.1.kp.size; have h2 := HW.out.1.hB; omega)) HL1.out).mono ?_; rintro e w' ⟨rfl, hbw⟩)
    exact HRR.out _ ⟨HW.out.1.below hbw, HW.out.2.below hbw⟩
  case hnp => rfl
  case hv => first | exact ⟨_, fun _ => rfl⟩ | exact ⟨undef, fun _ => rfl⟩
  apply obl_det
  case hrun =>
    intro D y wz hW hD R hR
    have HRR := Lib.hid hR
    clear hR hD
    have HW := Lib.hid hW
    clear hW
    go_wp2
    exact HRR.out _ HW.out
  case hnp => rfl
  case hv => first | exact ⟨_, fun _ => rfl⟩ | exact ⟨undef, fun _ => rfl⟩
  apply obl_det
  case hrun =>
    intro D y wz hW hD R hR
    have HRR := Lib.hid hR
    clear hR hD
    have HW := Lib.hid hW
    clear hW
    go_wp2
    exact HRR.out _ HW.out
  case hnp => rfl
  case hv => first | exact ⟨_, fun _ => rfl⟩ | exact ⟨undef, fun _ => rfl⟩
  apply obl_nil
  intro D y w8 hall hW
  have HW8 := Lib.hid hW
  clear hW hall
  simp only [Exit.then]
  go_wp2_with (refine wpList_store_row rfl 110 _ _ rfl _ #[.int .i64 0, .int .i64 (-1)] rfl rfl _ _ HW8.out.1.r5 info110 rfl (by simp [Value.oneCell']) ?_)
  have hMs' := HW8.out.1.hM
  refine bodyPost_ret (v := planV (0, -1)) (results_cell_110 (p := (0, -1)) (b := w.heap.size + 1) (setRow_heap _ _ _ _ _ _ HW8.out.1.r5) rfl) rfl ⟨rfl, (HW8.out.2.setRow _ (by omega) _).mono (by omega), ?_⟩
  exact ⟨HW8.out.1.kp.os, HW8.out.1.kp.tape, HW8.out.1.kp.output, by simpa using HW8.out.1.kp.size, fun i hi hne => (setRow_other _ _ _ _ (by omega)).trans (HW8.out.1.kp.block i hi hne)⟩

theorem wpList_lookup_memo {P : Program} {ops : Array Oper} {rest : List Oper} {o : Oper} {a : Act} {w : World} {Q : Exit → Act → World → Prop} (hg : o.guard = none) (m x : Operand) (t : TypeId) (hop : o.op = .lookup t m x true) (v : Value)
    (hr : (Instr.lookup t (a.eval m) (a.eval x) true).run P w = .ok v w) (h : wpList P ops Q rest (a.put o.dst v) w) : wpList P ops Q (o :: rest) a w := by
  refine wpList_value hg v ?_ h
  unfold execOp
  simp only [hop]
  simp [hr]

theorem wpList_update_memo {P : Program} {ops : Array Oper} {rest : List Oper} {o : Oper} {a : Act} {w w' : World} {Q : Exit → Act → World → Prop} (hg : o.guard = none) (m x y : Operand) (t : TypeId) (hop : o.op = .mapUpdate t m x y)
    (hr : (Instr.mapUpdate t (a.eval m) (a.eval x) (a.eval y)).run P w = .ok () w') (h : wpList P ops Q rest (a.put o.dst undef) w') : wpList P ops Q (o :: rest) a w := by
  refine wpList_plain hg fun K' hK' => ?_
  unfold Oper.wp
  simp [execOp, hop, hr, Result.andThen]
  exact hK' _ _ h

set_option maxRecDepth 100000 in
set_option maxHeartbeats 4000000 in
/-- On a day before. -/
theorem rest_succ (s : Sea) (hg : Good s) (vs : Value) (B bS bM bR M n r d : Nat) (hd : d + (r + 1) = s.len)
    (IH : ∀ (n' : Nat) (w' : World) (i : Nat) (h' : Int) (j' : List Int), i < s.stores.length → w'.heap[bS]? = some (.cells #[.int .i64 s.bend, .int .i64 s.days, .int .i64 s.jump, .int .i64 s.times, .int .i64 s.move, vs] 75) → w'.heap[bM]? = some (.cells #[.map (some M)] 107) → w'.heap[bR]? = some (.cells #[.func (.func 47) #[] #[.pointer (some ⟨bS, 0, none⟩), .pointer (some ⟨bM, 0, none⟩), .pointer (some ⟨bR, 0, none⟩)]] 108) →
      StosIn B w' vs s.stores → M < w'.heap.size → Memo s M n' w' → n' + noteN r ≤ 1000000 → j'.length = 61 → Small ((d + 1 : Nat) : Int) j' → 0 ≤ h' → h' ≤ d + 1 →
      Calls Try.prog 47 #[.agg (ints ((d : Int) :: (i : Int) :: h' :: j')), .pointer (some ⟨bS, 0, none⟩), .pointer (some ⟨bM, 0, none⟩), .pointer (some ⟨bR, 0, none⟩)] w' (RestPost s M n' w' r (d + 1) i h' j'))
    (w : World)
    (hS : w.heap[bS]? = some (.cells #[.int .i64 s.bend, .int .i64 s.days, .int .i64 s.jump, .int .i64 s.times, .int .i64 s.move, vs] 75)) (hMr : w.heap[bM]? = some (.cells #[.map (some M)] 107)) (hR : w.heap[bR]? = some (.cells #[.func (.func 47) #[] #[.pointer (some ⟨bS, 0, none⟩), .pointer (some ⟨bM, 0, none⟩), .pointer (some ⟨bR, 0, none⟩)]] 108))
    (hv : StosIn B w vs s.stores) (hB : B ≤ M) (hMs : M < w.heap.size) (nS : bS ≠ M) (nM : bM ≠ M) (nR : bR ≠ M) (hm : Memo s M n w) (hn : n + noteN (r + 1) ≤ 1000000)
    (x st h : Int) (j : List Int) (hx : x = (d : Int) - 1) (hst0 : -1 ≤ st) (hst1 : st ≤ 3) (hj : j.length = 61) (hjs : Small (d : Int) j) (hh0 : 0 ≤ h) (hh1 : h ≤ d) :
    Calls Try.prog 47 #[.agg (ints (x :: st :: h :: j)), .pointer (some ⟨bS, 0, none⟩), .pointer (some ⟨bM, 0, none⟩), .pointer (some ⟨bR, 0, none⟩)] w (RestPost s M n w (r + 1) d st h j) := by
  have HG := Lib.hid hg
  have HIH := Lib.hid IH
  have HJ := Lib.hid hj
  have HJS := Lib.hid hjs
  have HL1 : Hid (0 < s.stores.length) := by have := hg.stores; unfold Hid; omega
  have hlen := hg.len
  have HM := Lib.hid hm
  have HX := Lib.hid hx
  have HN := Lib.hid hn
  have hdl : d < s.len := by omega
  have HDR : Hid (s.len - d = r + 1) := by unfold Hid; omega
  have HST : Hid (stCells d st h j = x :: st :: h :: j) := by unfold Hid stCells; rw [hx]
  have HWF : Hid (I64 (stCells d st h j)) := by
    intro y hy
    rw [HST.out] at hy
    refine WalkArith.wf_i64 ?_
    rcases List.mem_cons.1 hy with rfl | hy
    · omega
    rcases List.mem_cons.1 hy with rfl | hy
    · omega
    rcases List.mem_cons.1 hy with rfl | hy
    · omega
    obtain ⟨k, hk, rfl⟩ := List.getElem_of_mem hy
    have := hjs k
    rw [List.getD_eq_getElem?_getD, List.getElem?_eq_getElem hk] at this
    simp only [Option.getD_some] at this
    omega
  clear hm hj hjs hn IH
  have R0 : Hid (RC s w B bS bM bR M _ vs (x :: st :: h :: j) _) := RC.start hS hMr hR hv hB hMs nS nM nR
  obtain ⟨a, c, rfl, hll, hlc, hvv⟩ := hv
  clear hS hMr hR hvv
  have hxb : -1 ≤ x ∧ x ≤ 8 := by omega
  have hxl : x + 1 < s.len := by omega
  clear hx
  go_enter Try.func47, Try.ntmps47
  go_wp2_with fail
  refine wp_world (fun wr => RC s w B bS bM bR M #[.int .i64 s.bend, .int .i64 s.days, .int .i64 s.jump, .int .i64 s.times, .int .i64 s.move, .slice a s.stores.length c] (.slice a s.stores.length c) (x :: st :: h :: j) wr ∧ Memo s M n wr) ⟨R0.out, HM.out.below (((Below.refl w.heap.size w).alloc (Nat.le_refl _) _).alloc (by simp) _)⟩ ?_
  intro w7 hw7
  have HW0 := Lib.hid hw7
  clear hw7
  refine wp_region_inv0 (by kernel_rfl) (by kernel_rfl) (fun _ w' => RC s w B bS bM bR M #[.int .i64 s.bend, .int .i64 s.days, .int .i64 s.jump, .int .i64 s.times, .int .i64 s.move, .slice a s.stores.length c] (.slice a s.stores.length c) (x :: st :: h :: j) w' ∧ Memo s M n w') ⟨HW0.out.1.drew, HW0.out.2⟩ ?_
  apply obl_det
  case hrun =>
    intro D y wz hW hD R hR
    have HRR := Lib.hid hR
    clear hR hD
    have HW := Lib.hid hW
    clear hW
    go_wp2
    exact HRR.out _ HW.out
  case hnp => rfl
  case hv => first | exact ⟨_, fun _ => rfl⟩ | exact ⟨undef, fun _ => rfl⟩
  apply obl_det
  case hrun =>
    intro D y wz hW hD R hR
    have HRR := Lib.hid hR
    clear hR hD
    have HW := Lib.hid hW
    have cx := fun i => cell_of_row wz _ i _ _ _ hW.1.r4
    clear hW
    go_wp2
    exact HRR.out _ HW.out
  case hnp => rfl
  case hv => first | exact ⟨_, fun _ => rfl⟩ | exact ⟨undef, fun _ => rfl⟩
  apply obl_det
  case hrun =>
    intro D y wz hW hD R hR
    have HRR := Lib.hid hR
    clear hR hD
    have HW := Lib.hid hW
    have cs := fun i => cell_of_row wz _ i _ _ _ hW.1.rS
    clear hW
    go_wp2
    exact HRR.out _ HW.out
  case hnp => rfl
  case hv => first | exact ⟨_, fun _ => rfl⟩ | exact ⟨undef, fun _ => rfl⟩
  apply obl_det
  case hrun =>
    intro D y wz hW hD R hR
    have HRR := Lib.hid hR
    have HW := Lib.hid hW
    clear hR hD hW
    go_wp2_with (go_at_call 40; refine (seaDays_any s _ _ (HW.out.1.sv.mono (by have h1 := HW.out.1.kp.size; have h2 := HW.out.1.hB; omega)) HL1.out).mono ?_; rintro e w' ⟨rfl, hbw⟩)
    exact HRR.out _ ⟨HW.out.1.below hbw, HW.out.2.below hbw⟩
  case hnp => rfl
  case hv => first | exact ⟨_, fun _ => rfl⟩ | exact ⟨undef, fun _ => rfl⟩
  apply obl_det
  case hrun =>
    intro D y wz hW hD R hR
    have HRR := Lib.hid hR
    clear hR hD
    have HW := Lib.hid hW
    clear hW
    go_wp2
    exact HRR.out _ HW.out
  case hnp => rfl
  case hv => first | exact ⟨_, fun _ => rfl⟩ | exact ⟨undef, fun _ => rfl⟩
  apply obl_det
  case hrun =>
    intro D y wz hW hD R hR
    have HRR := Lib.hid hR
    clear hR hD
    have HW := Lib.hid hW
    clear hW
    go_wp2
    exact HRR.out _ HW.out
  case hnp => rfl
  case hv => first | exact ⟨_, fun _ => rfl⟩ | exact ⟨undef, fun _ => rfl⟩
  apply obl_nil
  intro D y w8 hall hW
  have HW8 := Lib.hid hW
  clear hW hall
  simp only [Exit.then]
  have HLK := Lib.hid (HW8.out.2.look d st h j HJ.out HWF.out)
  rw [HST.out, HDR.out] at HLK
  have cM := cell_of_row w8 _ 0 _ _ _ HW8.out.1.rM
  rcases HLK.out with hlk | hlk
  · have HLK := Lib.hid hlk
    clear hlk
    unfold planV at HLK
    have cs := fun i => cell_of_row w8 _ i _ _ _ HW8.out.1.rS
    have hSl : bS < w8.heap.size := block_lt HW8.out.1.rS
    have hsz8 : w.heap.size + 1 < w8.heap.size := block_lt HW8.out.1.r5
    go_wp2_with (first | (refine wpList_load_row rfl 99 _ rfl _ rfl _ _ _ _ HW8.out.1.r4 Try.underlying99 rfl (by rw [ints_size]; simp only [List.length_cons, HJ.out]; exact info99) ?_) | (at_lookup; refine wpList_lookup_memo rfl _ _ 107 rfl _ HLK.out ?_))
    clear cs cM
    refine wp_world (fun wr => RC s w B bS bM bR M #[.int .i64 s.bend, .int .i64 s.days, .int .i64 s.jump, .int .i64 s.times, .int .i64 s.move, .slice a s.stores.length c] (.slice a s.stores.length c) (x :: st :: h :: j) wr ∧ Memo s M n wr ∧ wr.heap[w8.heap.size + 1]? = some (.cells #[.int .i64 (-1), .int .i64 (-1)] 110)) ?_ ?_
    · have hb := ((Below.refl w8.heap.size w8).alloc (Nat.le_refl _) (.cells #[.int .i64 0, .int .i64 0] 110)).alloc (by simp) (.cells #[.int .i64 (-1), .int .i64 (-1)] 110)
      exact ⟨HW8.out.1.below hb, HW8.out.2.below hb, by simpa using heap_alloc_new (w8.alloc (.cells #[.int .i64 0, .int .i64 0] 110)) (.cells #[.int .i64 (-1), .int .i64 (-1)] 110)⟩
    rintro w9 ⟨hR9, hM9, h89⟩
    have HR9 := Lib.hid hR9
    have HM9 := Lib.hid hM9
    have H89 := Lib.hid h89
    clear hR9 hM9 h89
    go_loopw [34] (fun iv wr => ∃ (k n' : Nat), iv = .int .i64 k ∧ k ≤ s.stores.length ∧ RC s w B bS bM bR M #[.int .i64 s.bend, .int .i64 s.days, .int .i64 s.jump, .int .i64 s.times, .int .i64 s.move, .slice a s.stores.length c] (.slice a s.stores.length c) (x :: st :: h :: j) wr ∧ Memo s M n' wr ∧ n' ≤ n + k * noteN r ∧ wr.heap[w8.heap.size + 1]? = some (.cells #[.int .i64 (bestTo s (fun i h' j' => bestR s r (d + 1) i h' j') d st h j k).1, .int .i64 (bestTo s (fun i h' j' => bestR s r (d + 1) i h' j') d st h j k).2] 110)) (fun iv _ => s.stores.length - (intOf iv).toNat)
    case atStart => exact ⟨0, n, rfl, by omega, HR9.out, HM9.out, by omega, H89.out⟩
    case round =>
      obtain ⟨k, n', rfl, hk, hR, hM, hn', h8⟩ := hrel
      have HR := Lib.hid hR
      have HM' := Lib.hid hM
      have H8 := Lib.hid h8
      have HN' := Lib.hid hn'
      clear hR hM h8 hn'
      by_cases hlt : k < s.stores.length
      · obtain ⟨bs, os, c', hse, hcc, hbs, hs0, hs1, hnm, v, hs2, hsw⟩ := HR.out.sv.at hlt
        cases hse
        obtain ⟨a2, c2, rfl, -⟩ := hsw
        generalize (s.stores.getD k default).warm.length = n2 at hs2
        have HRB := Lib.hid (HG.out.rent k hlt)
        have HRT : Hid (s.rent k = (s.stores.getD k default).rent) := rfl
        generalize (s.stores.getD k default).rent = rent at hs1 HRB HRT
        generalize (s.stores.getD k default).name = nm at hs0 hnm
        have hbl : bs < wr.heap.size := by have h1 := HR.out.kp.size; have h2 := HR.out.hM; omega
        have HRA := Lib.hid (HR.out.below ((Below.refl wr.heap.size wr).alloc (Nat.le_refl _) (.cells #[.string nm, .int .i64 rent, .slice a2 n2 c2] 66)))
        have HMA := Lib.hid (HM'.out.below ((Below.refl wr.heap.size wr).alloc (Nat.le_refl _) (.cells #[.string nm, .int .i64 rent, .slice a2 n2 c2] 66)))
        have H8A := Lib.hid (block_keep H8.out ((Below.refl wr.heap.size wr).alloc (Nat.le_refl _) (.cells #[.string nm, .int .i64 rent, .slice a2 n2 c2] 66)))
        have H10 : Hid ((wr.alloc (.cells #[.string nm, .int .i64 rent, .slice a2 n2 c2] 66)).heap[wr.heap.size]? = some (.cells #[.string nm, .int .i64 rent, .slice a2 n2 c2] 66)) := heap_alloc_new _ _
        have cs := fun i => cell_of_row wr _ i _ _ _ HR.out.rS
        have hSl : bS < wr.heap.size := block_lt HR.out.rS
        obtain ⟨sf, hsf⟩ : ∃ sf, s.safe (s.hotN (s.at k d) h) (s.jumpN (s.at k d) j) = sf := ⟨_, rfl⟩
        have HSF := Lib.hid hsf
        clear hsf
        go_wp2_with (refine wpList_load_row rfl 99 _ rfl _ rfl _ _ _ _ HRA.out.r4 Try.underlying99 rfl (by rw [ints_size]; simp only [List.length_cons, HJ.out]; exact info99) ?_)
        have hA := after_good s HG.out (.slice (some ⟨bs, os, none⟩) s.stores.length c) d st h j k (wr.alloc (.cells #[.string nm, .int .i64 rent, .slice a2 n2 c2] 66)) (HRA.out.sv.mono (by have h1 := HRA.out.kp.size; have h2 := HRA.out.hM; have h3 := HRA.out.hB; omega)) hlt hdl HJ.out (fun q => ⟨(HJS.out q).1, by have := (HJS.out q).2; omega⟩) hh0 (by omega) sf HSF.out
        rw [← HX.out] at hA
        refine hA.mono ?_
        rintro e w10 ⟨rfl, hbw⟩
        have HR10 := Lib.hid (HRA.out.below hbw)
        have HM10 := Lib.hid (HMA.out.below hbw)
        have H810 := Lib.hid (block_keep H8A.out hbw)
        have HB10 := Lib.hid (block_keep H10.out hbw)
        have hhb := s.hotN_bound (s.at k d) h d hh0 hh1
        have HJL := Lib.hid (s.jumpN_len (s.at k d) j)
        have HJN : Hid (Small ((d + 1 : Nat) : Int) (s.jumpN (s.at k d) j)) := nextTo_small HJS.out (by omega) _ _ _
        clear hbw cs hs0 hs1 hs2 hA
        have HBT : Hid ((bestTo s (fun i h' j' => bestR s r (d + 1) i h' j') d st h j (k + 1)) = bestStep s (fun i h' j' => bestR s r (d + 1) i h' j') d st h j (bestTo s (fun i h' j' => bestR s r (d + 1) i h' j') d st h j k) k) := rfl
        generalize hh' : s.hotN (s.at k d) h = h' at *
        generalize hj' : s.jumpN (s.at k d) j = j' at *
        generalize (bestTo s (fun i h' j' => bestR s r (d + 1) i h' j') d st h j k) = b at *
        cases sf
        · have HBN : Hid ((bestTo s (fun i h' j' => bestR s r (d + 1) i h' j') d st h j (k + 1)) = b) := by unfold Hid; rw [HBT.out, bestStep, hh', hj', HSF.out]; rfl
          clear hh' hj'
          have hs10 : w8.heap.size + 1 < w10.heap.size := block_lt H810.out
          have hw10 : wr.heap.size < w10.heap.size := block_lt HB10.out
          have hs8 : w.heap.size + 1 < w8.heap.size := block_lt HW8.out.1.r5
          have hMw := HR10.out.hM
          have hbz : Below w10.heap.size w10 ((w10.alloc (.cells (ints (List.replicate 64 0)) 99)).setRow w10.heap.size (ints ((d : Int) :: (k : Int) :: h' :: j'))) := below_setRow ((Below.refl _ _).alloc (Nat.le_refl _) _) (Nat.le_refl _) _
          have HR11 := Lib.hid (HR10.out.below hbz)
          have HM11 := Lib.hid (HM10.out.below hbz)
          have H811 := Lib.hid (block_keep H810.out hbz)
          have HB11 := Lib.hid (block_keep HB10.out hbz)
          have HC11 : Hid (((w10.alloc (.cells (ints (List.replicate 64 0)) 99)).setRow w10.heap.size (ints ((d : Int) :: (k : Int) :: h' :: j'))).heap[w10.heap.size]? = some (.cells (ints ((d : Int) :: (k : Int) :: h' :: j')) 99)) := setRow_heap _ _ _ _ _ _ (heap_alloc_new _ _)
          clear hbz
          go_wp2_with (refine wpList_store_row rfl 99 _ _ rfl _ (ints ((d : Int) :: (k : Int) :: h' :: j')) rfl rfl _ _ (heap_alloc_new _ _) (by rw [ints_size]; simp only [List.length_cons, HJL.out]; exact info99) (by simp [ints_size, HJL.out]) (ints_oneCell _) ?_)
          go_roundw
          case rel => exact ⟨k + 1, n', by go_num, by omega, HR11.out, HM11.out, Nat.le_trans HN'.out (Nat.add_le_add_left (Nat.mul_le_mul_right _ (Nat.le_succ k)) n), by rw [HBN.out]; exact H811.out⟩
          case measure => simp [intOf]; omega
        · have hNOP := trivial
          have hs10 : w8.heap.size + 1 < w10.heap.size := block_lt H810.out
          have hw10 : wr.heap.size < w10.heap.size := block_lt HB10.out
          have hs8 : w.heap.size + 1 < w8.heap.size := block_lt HW8.out.1.r5
          have hMw := HR10.out.hM
          have hbz : Below w10.heap.size w10 ((w10.alloc (.cells (ints (List.replicate 64 0)) 99)).setRow w10.heap.size (ints ((d : Int) :: (k : Int) :: h' :: j'))) := below_setRow ((Below.refl _ _).alloc (Nat.le_refl _) _) (Nat.le_refl _) _
          have HR11 := Lib.hid (HR10.out.below hbz)
          have HM11 := Lib.hid (HM10.out.below hbz)
          have H811 := Lib.hid (block_keep H810.out hbz)
          have HB11 := Lib.hid (block_keep HB10.out hbz)
          have HC11 : Hid (((w10.alloc (.cells (ints (List.replicate 64 0)) 99)).setRow w10.heap.size (ints ((d : Int) :: (k : Int) :: h' :: j'))).heap[w10.heap.size]? = some (.cells (ints ((d : Int) :: (k : Int) :: h' :: j')) 99)) := setRow_heap _ _ _ _ _ _ (heap_alloc_new _ _)
          clear hbz
          have hb99 := bestR_bound s HG.out r (d + 1) k h' j'
          have hNN : n' + noteN r ≤ 1000000 := by
            have h1 := HN'.out
            have h2 := HN.out
            have h3 : (k + 1) * noteN r ≤ 3 * noteN r := Nat.mul_le_mul_right _ (by have := HG.out.stores; omega)
            have h4 : noteN (r + 1) = 1 + 3 * noteN r := rfl
            have h5 : (k + 1) * noteN r = k * noteN r + noteN r := Nat.succ_mul _ _
            omega
          have hm8 : r ≤ 8 := by omega
          obtain ⟨p, hp⟩ : ∃ p, bestR s r (d + 1) k h' j' = p := ⟨_, rfl⟩
          rw [hp] at hb99
          have HP := Lib.hid hp
          clear hp
          go_upto_region 12 with (refine wpList_store_row rfl 99 _ _ rfl _ (ints ((d : Int) :: (k : Int) :: h' :: j')) rfl rfl _ _ (heap_alloc_new _ _) (by rw [ints_size]; simp only [List.length_cons, HJL.out]; exact info99) (by simp [ints_size, HJL.out]) (ints_oneCell _) ?_)
          refine wp_world (fun w11 => RC s w B bS bM bR M #[.int .i64 s.bend, .int .i64 s.days, .int .i64 s.jump, .int .i64 s.times, .int .i64 s.move, .slice (some ⟨bs, os, none⟩) s.stores.length c] (.slice (some ⟨bs, os, none⟩) s.stores.length c) (x :: st :: h :: j) w11 ∧ Memo s M n' w11 ∧ w11.heap[w8.heap.size + 1]? = some (.cells #[.int .i64 b.1, .int .i64 b.2] 110) ∧ w11.heap[wr.heap.size]? = some (.cells #[.string nm, .int .i64 rent, .slice a2 n2 c2] 66) ∧ w11.heap[w10.heap.size]? = some (.cells (ints ((d : Int) :: (k : Int) :: h' :: j')) 99)) ⟨HR11.out, HM11.out, H811.out, HB11.out, HC11.out⟩ ?_
          clear HR11 HM11 H811 HB11 HC11
          rintro w11 ⟨hR11, hM11, h811, hB11, hC11⟩
          have HR11 := Lib.hid hR11
          have HM11 := Lib.hid hM11
          have H811 := Lib.hid h811
          have HB11 := Lib.hid hB11
          have HC11 := Lib.hid hC11
          clear hR11 hM11 h811 hB11 hC11
          have hI := HIH.out n' w11 k h' j' hlt HR11.out.rS HR11.out.rM HR11.out.rR HR11.out.sv (Nat.lt_of_lt_of_le HR11.out.hM HR11.out.kp.size) HM11.out hNN HJL.out HJN.out hhb.1 hhb.2
          have HI := Lib.hid hI
          clear hI
          have cR := cell_of_row w11 _ 0 _ _ _ HR11.out.rR
          go_wp2_with (refine wpList_load_row rfl 99 _ rfl _ rfl _ _ _ _ HC11.out Try.underlying99 rfl (by rw [ints_size]; simp only [List.length_cons, HJL.out]; exact info99) ?_)
          clear cR
          refine HI.out.mono ?_
          rintro e w12 ⟨he, hm12, hk12⟩
          rw [HP.out] at he
          unfold planV at he
          subst he
          have HR12 := Lib.hid (HR11.out.keeps hk12)
          have HM12 := Lib.hid hm12
          have hs11 : w8.heap.size + 1 < w11.heap.size := block_lt H811.out
          have hw11 : wr.heap.size < w11.heap.size := block_lt HB11.out
          have hMr : M < wr.heap.size := Nat.lt_of_lt_of_le HR.out.hM HR.out.kp.size
          have H812 := Lib.hid (hk12.row H811.out (by omega))
          have HB12 := Lib.hid (hk12.row HB11.out (by omega))
          clear hm12 hk12 HI
          go_upto_region 13 with fail
          refine wp_world (fun wz => RC s w B bS bM bR M #[.int .i64 s.bend, .int .i64 s.days, .int .i64 s.jump, .int .i64 s.times, .int .i64 s.move, .slice (some ⟨bs, os, none⟩) s.stores.length c] (.slice (some ⟨bs, os, none⟩) s.stores.length c) (x :: st :: h :: j) wz ∧ Memo s M (n' + noteN r) wz ∧ wz.heap[w8.heap.size + 1]? = some (.cells #[.int .i64 b.1, .int .i64 b.2] 110) ∧ wz.heap[wr.heap.size]? = some (.cells #[.string nm, .int .i64 rent, .slice a2 n2 c2] 66) ∧ wz.heap[w12.heap.size]? = some (.cells #[.int .i64 p.1, .int .i64 p.2] 110)) ?_ ?_
          · have hb := (Below.refl w12.heap.size w12).alloc (Nat.le_refl _) (.cells #[.int .i64 p.1, .int .i64 p.2] 110)
            exact ⟨HR12.out.below hb, HM12.out.below hb, block_keep H812.out hb, block_keep HB12.out hb, heap_alloc_new _ _⟩
          have hs12 : w8.heap.size + 1 < w12.heap.size := block_lt H812.out
          clear HR12 HM12 HR11 HM11 H811 HB11 HC11
          rintro wz ⟨hRz, hMz, h8z, hBz, hPz⟩
          have HRz := Lib.hid hRz
          have HMz := Lib.hid hMz
          have H8z := Lib.hid h8z
          have HBz := Lib.hid hBz
          have HPz := Lib.hid hPz
          clear hRz hMz h8z hBz hPz
          have HBS : Hid ((bestTo s (fun i h' j' => bestR s r (d + 1) i h' j') d st h j (k + 1)) = if p.1 < 0 then b else if b.1 < 0 ∨ p.1 + s.rent k + s.moveC st k < b.1 then (p.1 + s.rent k + s.moveC st k, (k : Int)) else b) := by
            unfold Hid
            rw [HBT.out, bestStep, hh', hj', HSF.out, if_pos rfl]
            simp only [HP.out]
          clear hh' hj' HBT
          rw [HRT.out] at HBS
          have hrb := HRB.out
          have hmv := HG.out.move
          have HNK : Hid (n' + noteN r ≤ n + (k + 1) * noteN r) := by
            have h1 := HN'.out
            have h5 : (k + 1) * noteN r = k * noteN r + noteN r := Nat.succ_mul _ _
            unfold Hid; omega
          obtain ⟨p1, p2⟩ := p
          obtain ⟨b1, b2⟩ := b
          simp only at hb99 HBS
          have cp := fun i => cell_of_row wz _ i _ _ _ HPz.out
          have fp := fun i => frozen_of_row wz _ i _ _ HPz.out
          have cb := fun i => cell_of_row wz _ i _ _ _ H8z.out
          have cq := fun i => cell_of_row wz _ i _ _ _ HBz.out
          have cx := fun i => cell_of_row wz _ i _ _ _ HRz.out.r4
          have cs := fun i => cell_of_row wz _ i _ _ _ HRz.out.rS
          by_cases hp0 : p1 < 0
          · have HBN : Hid ((bestTo s (fun i h' j' => bestR s r (d + 1) i h' j') d st h j (k + 1)) = (b1, b2)) := by unfold Hid; rw [HBS.out, if_pos hp0]
            go_wp2_with fail
            go_roundw
            case rel => exact ⟨k + 1, n' + noteN r, by go_num, by omega, HRz.out, HMz.out, HNK.out, by rw [HBN.out]; exact H8z.out⟩
            case measure => simp [intOf]; omega
          · skip
            have hp0' : 0 ≤ p1 := by omega
            go_upto_region 15 with fail
            refine wp_world (fun wz => RC s w B bS bM bR M #[.int .i64 s.bend, .int .i64 s.days, .int .i64 s.jump, .int .i64 s.times, .int .i64 s.move, .slice (some ⟨bs, os, none⟩) s.stores.length c] (.slice (some ⟨bs, os, none⟩) s.stores.length c) (x :: st :: h :: j) wz ∧ Memo s M (n' + noteN r) wz ∧ wz.heap[w8.heap.size + 1]? = some (.cells #[.int .i64 b1, .int .i64 b2] 110) ∧ wz.heap[w12.heap.size]? = some (.cells #[.int .i64 (p1 + rent), .int .i64 p2] 110)) ?_ ?_
            · exact ⟨HRz.out.setCell _ 0 (by omega) _, HMz.out.setCell _ 0 (by omega) _, (heap_setCell_other _ _ _ _ (show w8.heap.size + 1 ≠ w12.heap.size by omega)).trans H8z.out, heap_setCell_same wz w12.heap.size 0 _ 110 (.int .i64 (p1 + rent)) HPz.out⟩
            clear HRz HMz H8z HPz cp fp cb cx cs
            rintro wz ⟨hRz, hMz, h8z, hPz⟩
            have HRz := Lib.hid hRz
            have HMz := Lib.hid hMz
            have H8z := Lib.hid h8z
            have HPz := Lib.hid hPz
            clear hRz hMz h8z hPz
            have cp := fun i => cell_of_row wz _ i _ _ _ HPz.out
            have fp := fun i => frozen_of_row wz _ i _ _ HPz.out
            have cb := fun i => cell_of_row wz _ i _ _ _ H8z.out
            have cx := fun i => cell_of_row wz _ i _ _ _ HRz.out.r4
            have cs := fun i => cell_of_row wz _ i _ _ _ HRz.out.rS
            by_cases hs0 : 0 ≤ st
            · by_cases hsk : st = k
              · subst hsk
                have HMC : Hid (s.moveC (k : Int) k = 0) := by unfold Hid Sea.moveC; rw [if_neg (by omega)]
                go_upto_region 17 with fail
                have hcb : p1 + rent < 10000000 := by omega
                by_cases hb1 : b1 < 0
                · have HBN : Hid ((bestTo s (fun i h' j' => bestR s r (d + 1) i h' j') d (k : Int) h j (k + 1)) = (p1 + rent, (k : Int))) := by unfold Hid; rw [HBS.out, if_neg hp0, HMC.out, if_pos (by left; exact hb1)]; try simp
                  go_wp2_with (refine wpList_store_row rfl 110 _ _ rfl _ #[.int .i64 (p1 + rent), .int .i64 (k : Int)] rfl rfl _ _ H8z.out info110 rfl (by simp [Value.oneCell']) ?_)
                  go_roundw
                  case rel => exact ⟨k + 1, n' + noteN r, by go_num, by omega, HRz.out.setRow _ (by omega) _, HMz.out.setRow _ (by omega) _, HNK.out, by rw [HBN.out]; exact setRow_heap _ _ _ _ _ _ H8z.out⟩
                  case measure => simp [intOf]; omega
                · by_cases hb2 : p1 + rent < b1
                  · have HBN : Hid ((bestTo s (fun i h' j' => bestR s r (d + 1) i h' j') d (k : Int) h j (k + 1)) = (p1 + rent, (k : Int))) := by unfold Hid; rw [HBS.out, if_neg hp0, HMC.out, if_pos (by right; omega)]; try simp
                    go_wp2_with (refine wpList_store_row rfl 110 _ _ rfl _ #[.int .i64 (p1 + rent), .int .i64 (k : Int)] rfl rfl _ _ H8z.out info110 rfl (by simp [Value.oneCell']) ?_)
                    go_roundw
                    case rel => exact ⟨k + 1, n' + noteN r, by go_num, by omega, HRz.out.setRow _ (by omega) _, HMz.out.setRow _ (by omega) _, HNK.out, by rw [HBN.out]; exact setRow_heap _ _ _ _ _ _ H8z.out⟩
                    case measure => simp [intOf]; omega
                  · have HBN : Hid ((bestTo s (fun i h' j' => bestR s r (d + 1) i h' j') d (k : Int) h j (k + 1)) = (b1, b2)) := by unfold Hid; rw [HBS.out, if_neg hp0, HMC.out, if_neg (by omega)]
                    go_wp2_with fail
                    go_roundw
                    case rel => exact ⟨k + 1, n' + noteN r, by go_num, by omega, HRz.out, HMz.out, HNK.out, by rw [HBN.out]; exact H8z.out⟩
                    case measure => simp [intOf]; omega
              · have HMC : Hid (s.moveC st k = s.move) := by unfold Hid Sea.moveC; rw [if_pos ⟨hs0, hsk⟩]
                have hne : (st != (k : Int)) = true := by simpa using hsk
                go_upto_region 17 with fail
                refine wp_world (fun wz => RC s w B bS bM bR M #[.int .i64 s.bend, .int .i64 s.days, .int .i64 s.jump, .int .i64 s.times, .int .i64 s.move, .slice (some ⟨bs, os, none⟩) s.stores.length c] (.slice (some ⟨bs, os, none⟩) s.stores.length c) (x :: st :: h :: j) wz ∧ Memo s M (n' + noteN r) wz ∧ wz.heap[w8.heap.size + 1]? = some (.cells #[.int .i64 b1, .int .i64 b2] 110) ∧ wz.heap[w12.heap.size]? = some (.cells #[.int .i64 (p1 + rent + s.move), .int .i64 p2] 110)) ?_ ?_
                · exact ⟨HRz.out.setCell _ 0 (by omega) _, HMz.out.setCell _ 0 (by omega) _, (heap_setCell_other _ _ _ _ (show w8.heap.size + 1 ≠ w12.heap.size by omega)).trans H8z.out, heap_setCell_same wz w12.heap.size 0 _ 110 (.int .i64 (p1 + rent + s.move)) HPz.out⟩
                clear HRz HMz H8z HPz cp fp cb cx cs
                rintro wz ⟨hRz, hMz, h8z, hPz⟩
                have HRz := Lib.hid hRz
                have HMz := Lib.hid hMz
                have H8z := Lib.hid h8z
                have HPz := Lib.hid hPz
                clear hRz hMz h8z hPz
                have cp := fun i => cell_of_row wz _ i _ _ _ HPz.out
                have fp := fun i => frozen_of_row wz _ i _ _ HPz.out
                have cb := fun i => cell_of_row wz _ i _ _ _ H8z.out
                have cx := fun i => cell_of_row wz _ i _ _ _ HRz.out.r4
                have cs := fun i => cell_of_row wz _ i _ _ _ HRz.out.rS
                have hcb : p1 + rent + s.move < 10000000 := by omega
                by_cases hb1 : b1 < 0
                · have HBN : Hid ((bestTo s (fun i h' j' => bestR s r (d + 1) i h' j') d st h j (k + 1)) = (p1 + rent + s.move, (k : Int))) := by unfold Hid; rw [HBS.out, if_neg hp0, HMC.out, if_pos (by left; exact hb1)]; try simp
                  go_wp2_with (refine wpList_store_row rfl 110 _ _ rfl _ #[.int .i64 (p1 + rent + s.move), .int .i64 (k : Int)] rfl rfl _ _ H8z.out info110 rfl (by simp [Value.oneCell']) ?_)
                  go_roundw
                  case rel => exact ⟨k + 1, n' + noteN r, by go_num, by omega, HRz.out.setRow _ (by omega) _, HMz.out.setRow _ (by omega) _, HNK.out, by rw [HBN.out]; exact setRow_heap _ _ _ _ _ _ H8z.out⟩
                  case measure => simp [intOf]; omega
                · by_cases hb2 : p1 + rent + s.move < b1
                  · have HBN : Hid ((bestTo s (fun i h' j' => bestR s r (d + 1) i h' j') d st h j (k + 1)) = (p1 + rent + s.move, (k : Int))) := by unfold Hid; rw [HBS.out, if_neg hp0, HMC.out, if_pos (by right; omega)]; try simp
                    go_wp2_with (refine wpList_store_row rfl 110 _ _ rfl _ #[.int .i64 (p1 + rent + s.move), .int .i64 (k : Int)] rfl rfl _ _ H8z.out info110 rfl (by simp [Value.oneCell']) ?_)
                    go_roundw
                    case rel => exact ⟨k + 1, n' + noteN r, by go_num, by omega, HRz.out.setRow _ (by omega) _, HMz.out.setRow _ (by omega) _, HNK.out, by rw [HBN.out]; exact setRow_heap _ _ _ _ _ _ H8z.out⟩
                    case measure => simp [intOf]; omega
                  · have HBN : Hid ((bestTo s (fun i h' j' => bestR s r (d + 1) i h' j') d st h j (k + 1)) = (b1, b2)) := by unfold Hid; rw [HBS.out, if_neg hp0, HMC.out, if_neg (by omega)]
                    go_wp2_with fail
                    go_roundw
                    case rel => exact ⟨k + 1, n' + noteN r, by go_num, by omega, HRz.out, HMz.out, HNK.out, by rw [HBN.out]; exact H8z.out⟩
                    case measure => simp [intOf]; omega
            · have HMC : Hid (s.moveC st k = 0) := by unfold Hid Sea.moveC; rw [if_neg (by omega)]
              go_upto_region 17 with fail
              have hcb : p1 + rent < 10000000 := by omega
              by_cases hb1 : b1 < 0
              · have HBN : Hid ((bestTo s (fun i h' j' => bestR s r (d + 1) i h' j') d st h j (k + 1)) = (p1 + rent, (k : Int))) := by unfold Hid; rw [HBS.out, if_neg hp0, HMC.out, if_pos (by left; exact hb1)]; try simp
                go_wp2_with (refine wpList_store_row rfl 110 _ _ rfl _ #[.int .i64 (p1 + rent), .int .i64 (k : Int)] rfl rfl _ _ H8z.out info110 rfl (by simp [Value.oneCell']) ?_)
                go_roundw
                case rel => exact ⟨k + 1, n' + noteN r, by go_num, by omega, HRz.out.setRow _ (by omega) _, HMz.out.setRow _ (by omega) _, HNK.out, by rw [HBN.out]; exact setRow_heap _ _ _ _ _ _ H8z.out⟩
                case measure => simp [intOf]; omega
              · by_cases hb2 : p1 + rent < b1
                · have HBN : Hid ((bestTo s (fun i h' j' => bestR s r (d + 1) i h' j') d st h j (k + 1)) = (p1 + rent, (k : Int))) := by unfold Hid; rw [HBS.out, if_neg hp0, HMC.out, if_pos (by right; omega)]; try simp
                  go_wp2_with (refine wpList_store_row rfl 110 _ _ rfl _ #[.int .i64 (p1 + rent), .int .i64 (k : Int)] rfl rfl _ _ H8z.out info110 rfl (by simp [Value.oneCell']) ?_)
                  go_roundw
                  case rel => exact ⟨k + 1, n' + noteN r, by go_num, by omega, HRz.out.setRow _ (by omega) _, HMz.out.setRow _ (by omega) _, HNK.out, by rw [HBN.out]; exact setRow_heap _ _ _ _ _ _ H8z.out⟩
                  case measure => simp [intOf]; omega
                · have HBN : Hid ((bestTo s (fun i h' j' => bestR s r (d + 1) i h' j') d st h j (k + 1)) = (b1, b2)) := by unfold Hid; rw [HBS.out, if_neg hp0, HMC.out, if_neg (by omega)]
                  go_wp2_with fail
                  go_roundw
                  case rel => exact ⟨k + 1, n' + noteN r, by go_num, by omega, HRz.out, HMz.out, HNK.out, by rw [HBN.out]; exact H8z.out⟩
                  case measure => simp [intOf]; omega
      · obtain rfl : k = s.stores.length := by omega
        have hmul : s.stores.length * noteN r ≤ 3 * noteN r := Nat.mul_le_mul_right _ (by have := HG.out.stores; omega)
        have hN := HN.out
        have hN1 := HN'.out
        have hN2 : noteN (r + 1) = 1 + 3 * noteN r := rfl
        have HBR : Hid (bestR s (r + 1) d st h j = (bestTo s (fun i h' j' => bestR s r (d + 1) i h' j') d st h j s.stores.length)) := rfl
        obtain ⟨w', hrun, hmn, hkn⟩ := HM'.out.note (by unfold maxLen; omega) d st h j HJ.out HWF.out
        rw [HST.out, HDR.out, HBR.out] at hrun
        obtain ⟨p, hp⟩ : ∃ p, (bestTo s (fun i h' j' => bestR s r (d + 1) i h' j') d st h j s.stores.length) = p := ⟨_, rfl⟩
        rw [hp] at hrun H8
        have HP := Lib.hid hp
        have HRUN := Lib.hid hrun
        have HMN := Lib.hid hmn
        have HKN := Lib.hid hkn
        have HR2 := Lib.hid (HR.out.keeps hkn)
        have H82 := Lib.hid (hkn.row H8.out (by have h1 := HR.out.kp.size; have h2 := HR.out.hM; have h3 := block_lt HW8.out.1.r5; omega))
        clear hp hrun hmn hkn hN hN1 hN2 hmul
        unfold planV at HRUN
        have cM := cell_of_row wr _ 0 _ _ _ HR.out.rM
        go_wp2_with (first | (refine wpList_load_row rfl 99 _ rfl _ rfl _ _ _ _ HR.out.r4 Try.underlying99 rfl (by rw [ints_size]; simp only [List.length_cons, HJ.out]; exact info99) ?_) | (refine wpList_load_row rfl 110 _ rfl _ rfl _ _ _ _ H8.out Try.underlying110 rfl info110 ?_) | (at_mapUpdate; refine wpList_update_memo rfl _ _ _ 107 rfl HRUN.out ?_; clear cM) | (refine wpList_load_row rfl 110 _ rfl _ rfl _ _ _ _ H82.out Try.underlying110 rfl info110 ?_) | (refine wpList_store_row rfl 110 _ _ rfl _ #[.int .i64 p.1, .int .i64 p.2] rfl rfl _ _ HR2.out.r5 info110 rfl (by simp [Value.oneCell']) ?_))
        have hMs' := HR2.out.hM
        have hN2 : noteN (r + 1) = 1 + 3 * noteN r := rfl
        have hmul : s.stores.length * noteN r ≤ 3 * noteN r := Nat.mul_le_mul_right _ (by have := HG.out.stores; omega)
        have hN1 := HN'.out
        refine bodyPost_ret (v := planV p) (results_cell_110 (p := p) (b := w.heap.size + 1) (setRow_heap _ _ _ _ _ _ HR2.out.r5) rfl) rfl ⟨by rw [HBR.out, HP.out], (HMN.out.setRow _ (by omega) _).mono (by omega), ?_⟩
        have kp := HR2.out.kp
        exact ⟨kp.os, kp.tape, kp.output, by simpa using kp.size, fun i hi hne => (setRow_other _ _ _ _ (by omega)).trans (kp.block i hi hne)⟩
  · have HLK := Lib.hid hlk
    clear hlk
    unfold planV at HLK
    obtain ⟨p, hp⟩ : ∃ p, bestR s (r + 1) d st h j = p := ⟨_, rfl⟩
    rw [hp] at HLK
    have HP := Lib.hid hp
    clear hp
    have hsz8 : w.heap.size + 1 < w8.heap.size := block_lt HW8.out.1.r5
    have HR5 : Hid ((w8.alloc (.cells #[.int .i64 p.1, .int .i64 p.2] 110)).heap[w.heap.size + 1]? = some (.cells #[.int .i64 0, .int .i64 0] 110)) := (Below.heap_alloc _ _ _ hsz8).trans HW8.out.1.r5
    go_wp2_with (first | (refine wpList_store_row rfl 110 _ _ rfl _ #[.int .i64 p.1, .int .i64 p.2] rfl rfl _ _ HR5.out info110 rfl (by simp [Value.oneCell']) ?_) | (first | (refine wpList_load_row rfl 99 _ rfl _ rfl _ _ _ _ HW8.out.1.r4 Try.underlying99 rfl (by rw [ints_size]; simp only [List.length_cons, HJ.out]; exact info99) ?_) | (at_lookup; refine wpList_lookup_memo rfl _ _ 107 rfl _ HLK.out ?_)))
    have hMs' := HW8.out.1.hM
    have hbA : Below w8.heap.size w8 (w8.alloc (.cells #[.int .i64 p.1, .int .i64 p.2] 110)) := (Below.refl _ _).alloc (Nat.le_refl _) _
    refine bodyPost_ret (v := planV p) (results_cell_110 (p := p) (b := w.heap.size + 1) (setRow_heap _ _ _ _ _ _ HR5.out) rfl) rfl ⟨by rw [HP.out], ((HW8.out.2.below hbA).setRow _ (by omega) _).mono (by omega), ?_⟩
    have kp := (HW8.out.1.below hbA).kp
    exact ⟨kp.os, kp.tape, kp.output, by simpa using kp.size, fun i hi hne => (setRow_other _ _ _ _ (by omega)).trans (kp.block i hi hne)⟩

/-- **rest**, at any state. -/
theorem rest_any (s : Sea) (hg : Good s) (vs : Value) (B bS bM bR M : Nat) (hB : B ≤ M) (nS : bS ≠ M) (nM : bM ≠ M) (nR : bR ≠ M) : ∀ (r d : Nat), d + r = s.len → ∀ (n : Nat) (w : World) (x st h : Int) (j : List Int),
    w.heap[bS]? = some (.cells #[.int .i64 s.bend, .int .i64 s.days, .int .i64 s.jump, .int .i64 s.times, .int .i64 s.move, vs] 75) → w.heap[bM]? = some (.cells #[.map (some M)] 107) → w.heap[bR]? = some (.cells #[.func (.func 47) #[] #[.pointer (some ⟨bS, 0, none⟩), .pointer (some ⟨bM, 0, none⟩), .pointer (some ⟨bR, 0, none⟩)]] 108) →
    StosIn B w vs s.stores → M < w.heap.size → Memo s M n w → n + noteN r ≤ 1000000 → x = (d : Int) - 1 → -1 ≤ st → st ≤ 3 → j.length = 61 → Small (d : Int) j → 0 ≤ h → h ≤ d →
    Calls Try.prog 47 #[.agg (ints (x :: st :: h :: j)), .pointer (some ⟨bS, 0, none⟩), .pointer (some ⟨bM, 0, none⟩), .pointer (some ⟨bR, 0, none⟩)] w (RestPost s M n w r d st h j)
  | 0, d, hd, n, w, x, st, h, j, hS, hM, hR, hv, hMs, hm, _, hx, _, _, _, _, _, _ => by
    obtain rfl : d = s.len := by omega
    subst hx
    exact rest_zero s hg vs B bS bM bR M n w hS hM hR hv hB hMs nS nM nR hm st h j
  | r + 1, d, hd, n, w, x, st, h, j, hS, hM, hR, hv, hMs, hm, hn, hx, hst0, hst1, hj, hjs, hh0, hh1 =>
    rest_succ s hg vs B bS bM bR M n r d hd (fun n' w' i h' j' hi hS' hM' hR' hv' hMs' hm' hn' hj' hjs' hh0' hh1' =>
      rest_any s hg vs B bS bM bR M hB nS nM nR r (d + 1) (by omega) n' w' d i h' j' hS' hM' hR' hv' hMs' hm' hn' (by omega) (by omega) (by have := hg.stores; omega) hj' hjs' hh0' (by omega))
      w hS hM hR hv hB hMs nS nM nR hm hn x st h j hx hst0 hst1 hj hjs hh0 hh1
end Go.Proofs.Ytddapabmfecidaa
