/- The walk of (season).after: the state a day later. -/
import Derived.Test.YtddapabmfecidaaW5
import Derived.Test.YtddapabmfecidaaReg
namespace Go.Proofs.Ytddapabmfecidaa
open Go.RowKit

/-- A season, as plain data. -/
structure Sea where
  bend : Int
  days : Int
  jump : Int
  times : Int
  move : Int
  stores : List Sto
def seaV (s : Sea) (vs : Value) : Value := .agg #[.int .i64 s.bend, .int .i64 s.days, .int .i64 s.jump, .int .i64 s.times, .int .i64 s.move, vs]

theorem info99 : (Try.prog.info? 99).map (·.size) = some 64 := by kernel_rfl

/-- The blocks of (season).after: the season, the state X, the result r. -/
structure AW (w wr : World) (S : Array Value) (X : List Int) (r : Array Value) : Prop where
  b0 : wr.heap[w.heap.size]? = some (.cells S 75)
  b1 : wr.heap[w.heap.size + 1]? = some (.cells (ints X) 99)
  b2 : wr.heap[w.heap.size + 1 + 1]? = some (.cells r 99)
  bel : Below w.heap.size w wr
  sz : w.heap.size + 2 < wr.heap.size

theorem AW.below {w wr w' : World} {S : Array Value} {X : List Int} {r : Array Value} (h : AW w wr S X r) (hb : Below wr.heap.size wr w') : AW w w' S X r :=
  ⟨block_keep h.b0 hb, block_keep h.b1 hb, block_keep h.b2 hb, h.bel.trans (hb.mono h.bel.size), Nat.lt_of_lt_of_le h.sz hb.size⟩

/-- All is as it was, but block X. -/
structure Keeps (w w' : World) (X : Nat) : Prop where
  os : w'.os = w.os
  tape : w'.tape = w.tape
  output : w'.output = w.output
  size : w.heap.size ≤ w'.heap.size
  block : ∀ k, k < w.heap.size → k ≠ X → w'.heap[k]? = w.heap[k]?
theorem Keeps.refl (w : World) (X : Nat) : Keeps w w X := ⟨rfl, rfl, rfl, Nat.le_refl _, fun _ _ _ => rfl⟩
theorem Keeps.below {w a b : World} {X : Nat} (h : Keeps w a X) (hb : Below a.heap.size a b) : Keeps w b X :=
  ⟨hb.os.trans h.os, hb.tape.trans h.tape, hb.output.trans h.output, Nat.le_trans h.size hb.size, fun k h1 h2 => (hb.block k (Nat.lt_of_lt_of_le h1 h.size)).trans (h.block k h1 h2)⟩
theorem Keeps.drew {w a : World} {X : Nat} (h : Keeps w a X) : Keeps w a.drew X := ⟨h.os, h.tape, h.output, h.size, h.block⟩
theorem Keeps.setRow {w a : World} {X : Nat} (h : Keeps w a X) (cs : Array Value) : Keeps w (a.setRow X cs) X :=
  ⟨h.os, h.tape, h.output, by simpa using h.size, fun k h1 h2 => (setRow_other a X k cs h2).trans (h.block k h1 h2)⟩
theorem Keeps.setCell {w a : World} {X : Nat} (h : Keeps w a X) (o : Nat) (v : Value) : Keeps w (a.setCell ⟨X, o, none⟩ v) X :=
  ⟨h.os, h.tape, h.output, by simpa [World.setCell] using h.size, fun k h1 h2 => (heap_setCell_other a _ k v h2).trans (h.block k h1 h2)⟩
theorem Keeps.toBelow {w a : World} {X B : Nat} (h : Keeps w a X) (hB : B ≤ X) (hs : B ≤ w.heap.size) : Below B w a :=
  ⟨h.os, h.tape, h.output, h.size, fun k hk => h.block k (by omega) (by omega)⟩
theorem Keeps.row {w a : World} {X : Nat} (h : Keeps w a X) {b : Nat} {o : Obj} (ho : w.heap[b]? = some o) (hb : b ≠ X) : a.heap[b]? = some o := by
  rw [h.block b (block_lt ho) hb]; exact ho

/-- The world while the three fields of a state are written. -/
structure XW (w w' : World) (X : Nat) (day st hot : Int) (j : List Int) (st' hot' : Int) (j' : List Int) (d1 d2 d3 : Bool) : Prop where
  keeps : Keeps w w' X
  row : ∃ s h l, w'.heap[X]? = some (.cells (ints (day :: s :: h :: l)) 99) ∧ l.length = 61 ∧ (d1 = true → s = st') ∧ (d2 = false → h = hot) ∧ (d2 = true → h = hot') ∧ (d3 = false → l = j) ∧ (d3 = true → l = j')

theorem XW.start {w : World} {X : Nat} {day st hot : Int} {j : List Int} {st' hot' : Int} {j' : List Int} (h : w.heap[X]? = some (.cells (ints (day :: st :: hot :: j)) 99)) (hj : j.length = 61) :
    XW w w.drew X day st hot j st' hot' j' false false false :=
  ⟨(Keeps.refl w _).drew, st, hot, j, h, hj, fun h => absurd h (by simp), fun _ => rfl, fun h => absurd h (by simp), fun _ => rfl, fun h => absurd h (by simp)⟩
theorem XW.call {w a w' : World} {X : Nat} {day st hot : Int} {j : List Int} {st' hot' : Int} {j' : List Int} {d1 d2 d3 : Bool} (h : XW w a X day st hot j st' hot' j' d1 d2 d3) (hb : Below a.heap.size a w') : XW w w' X day st hot j st' hot' j' d1 d2 d3 := by
  obtain ⟨hk, s, h, l, hr, hs⟩ := h
  exact ⟨hk.below hb, s, h, l, block_keep hr hb, hs⟩

/-- The world while a result is written to block X. -/
structure RW (w w' : World) (X : Nat) (cs : Array Value) (d1 : Bool) : Prop where
  keeps : Keeps w w' X
  row : ∃ r, w'.heap[X]? = some (.cells r 99) ∧ r.size = 64 ∧ (d1 = true → r = cs)
theorem RW.start {w : World} {X : Nat} {cs r : Array Value} (h : w.heap[X]? = some (.cells r 99)) (hr : r.size = 64) : RW w w.drew X cs false :=
  ⟨(Keeps.refl w _).drew, r, h, hr, fun h => absurd h (by simp)⟩
theorem RW.call {w a w' : World} {X : Nat} {cs : Array Value} {d1 : Bool} (h : RW w a X cs d1) (hb : Below a.heap.size a w') : RW w w' X cs d1 := by
  obtain ⟨hk, r, hr, hs⟩ := h
  exact ⟨hk.below hb, r, block_keep hr hb, hs⟩
def AfterRes (w : World) (be d t hi' jm lo hot : Int) (day i : Nat) (j : List Int) (e : Ending) (w' : World) : Prop :=
  e = .returned (.tuple #[.agg (ints ((day : Int) :: i :: hotV be hot hi' :: nextTo jm lo (hi' + 1) j)), .bool (decide (hotV be hot hi' < d) && decide (maxTo (nextTo jm lo (hi' + 1) j) 61 - 1 < t))]) ∧ Below w.heap.size w w'

theorem AW.mk3 (w : World) (S : Array Value) (X : List Int) (r : Array Value) : AW w (((w.alloc (.cells S 75)).alloc (.cells (ints X) 99)).alloc (.cells r 99)) S X r := by
  refine ⟨?_, ?_, ?_, (((Below.refl _ _).alloc (Nat.le_refl _) _).alloc (by simp) _).alloc (by simp; omega) _, by simp⟩
  · rw [heap_alloc_old (h := by simp; omega), heap_alloc_old (h := by simp)]; exact heap_alloc_new _ _
  · rw [heap_alloc_old (h := by simp)]; exact heap_alloc2_new _ _ _
  · have h := heap_alloc_new ((w.alloc (.cells S 75)).alloc (.cells (ints X) 99)) (.cells r 99)
    simpa using h

set_option maxRecDepth 100000 in
set_option maxHeartbeats 4000000 in
theorem after_any (be d jm t mv : Int) (vs : Value) (l : List Sto) (day : Nat) (st hot : Int) (j : List Int) (i : Nat) (w : World) (hv : StosIn w.heap.size w vs l)
    (hi : i < l.length) (hd1 : day < (l.getD i default).warm.length) (hj : j.length = 61) (hjs : Small 100 j) (hot0 : 0 ≤ hot) (hot1 : hot ≤ 100) (hday : day < 100)
    (lo hi' : Int) (hp : (l.getD i default).warm.getD day (0, 0) = (lo, hi')) (hlo0 : 0 ≤ lo) (hhi0 : hi' ≤ 60) (hlh : lo ≤ hi') :
    Calls Try.prog 42 #[.agg #[.int .i64 be, .int .i64 d, .int .i64 jm, .int .i64 t, .int .i64 mv, vs], .agg (ints (((day : Int) - 1) :: st :: hot :: j)), .int .i64 i] w
      (AfterRes w be d t hi' jm lo hot day i j) := by
  have HD1 := Lib.hid hd1
  have HJ := Lib.hid hj
  have HJS := Lib.hid hjs
  have HP := Lib.hid hp
  clear hj hd1 hjs hp
  go_enter Try.func42, Try.ntmps42
  go_wp2
  refine wp_world (fun wr => ∃ r, AW w wr #[.int .i64 be, .int .i64 d, .int .i64 jm, .int .i64 t, .int .i64 mv, vs] (day :: st :: hot :: j) r ∧ r.size = 64) ?_ ?_
  · exact ⟨_, AW.mk3 _ _ _ _, rfl⟩
  rintro w2 ⟨r, hA, hr64⟩
  have HR64 := Lib.hid hr64
  clear hr64
  obtain ⟨b1, o1, c1, rfl, hlc, hb1, _, _, _, vw, hcw, hvw⟩ := (hv.below hA.bel).at hi
  obtain ⟨b2, o2, c2, rfl, hlc2, hb2, hlo, hhi⟩ := hvw.at HD1.out
  have hsz := hA.sz
  have h5 := cell_of_row w2 _ 5 _ _ _ hA.b0
  have hx0 := cell_of_row w2 _ 0 _ _ _ hA.b1
  simp at h5
  rw [ints_at0'] at hx0
  have HA := Lib.hid hA
  clear hA
  have HV := Lib.hid hv
  have HVW := Lib.hid hvw
  clear hv hvw
  rw [HP.out] at hlo hhi
  generalize (l.getD i default).warm.length = n at *
  simp only at hlo hhi
  have hdn := HD1.out
  have hbs := HA.out.bel.size
  have hb1' : b1 < w2.heap.size := by omega
  have hb2' : b2 < w2.heap.size := by omega
  have hn0 : w.heap.size < w2.heap.size := by omega
  have hn1 : w.heap.size + 1 < w2.heap.size := by omega
  refine wp_region_inv1 (by kernel_rfl) (by kernel_rfl) [8] (fun D y w' => Below w2.heap.size w2 w' ∧ (D 11 = true → ∃ b, y 8 = .pointer (some ⟨b, 0, none⟩) ∧ w2.heap.size ≤ b ∧ b < w'.heap.size ∧ ∃ c, w'.heap[b]? = some (.cells c 53) ∧ c.size = 2 ∧ (D 12 = true → c = #[.int .i64 lo, .int .i64 hi']))) ?_ ?F ?hF ?_
  · exact ⟨(Below.refl _ _).drew, fun h => by cases h⟩
  case hF =>
    intro y
    simp only [fill, List.foldl, Act.put, List.setIfInBounds_toArray, List.set]
    exact rfl
  · iterate 11
      (apply obl_det
       case hrun =>
         intro D y w3 hW hD R hR
         have HR := Lib.hid hR
         clear hR
         obtain ⟨hcw3, hfw3⟩ := bcell hW.1
         go_wp2
         exact HR.out _ ⟨hW.1, fun h => hW.2 h⟩
       case hnp => rfl
       case hv => first | exact ⟨_, fun _ => rfl⟩ | exact ⟨undef, fun _ => rfl⟩)
    apply obl_priv 8
    case hd => rfl
    case hp => rfl
    case hrun =>
      intro D y w3 hW hD R hR
      have HR := Lib.hid hR
      clear hR
      go_wp2
      refine HR.out _ _ ⟨hW.1.alloc hW.1.size _, fun _ => ⟨w3.heap.size, rfl, hW.1.size, by simp, _, heap_alloc_new _ _, rfl, fun h => ?_⟩⟩
      have := hD.post _ 12 rfl (by kernel_rfl)
      have h' : D 12 = true := h
      rw [this] at h'; cases h'
    apply obl_det
    case hrun =>
      intro D y w3 hW hD R hR
      have HR := Lib.hid hR
      clear hR
      have h11 := hD.pre _ 11 rfl (by kernel_rfl)
      obtain ⟨hB, hW⟩ := hW
      obtain ⟨b, hy, hge, hlt, c, hc, hcs, _⟩ := hW h11
      rw [hy]
      refine wpList_store_row rfl 53 _ _ rfl b #[.int .i64 lo, .int .i64 hi'] rfl rfl _ _ hc (by kernel_rfl) hcs (by simp [Value.oneCell']) ?_
      rw [← hy]
      exact HR.out _ ⟨below_setRow hB hge _, fun _ => ⟨b, hy, hge, by simpa using hlt, _, setRow_heap _ _ _ _ _ _ hc, rfl, fun _ => rfl⟩⟩
    case hnp => rfl
    case hv => exact ⟨_, fun _ => rfl⟩
    apply obl_nil
    intro D y w3 hall hW
    obtain ⟨hB, hW⟩ := hW
    obtain ⟨b, hy, hge, hlt, c, hc, hcs, h12⟩ := hW (hall 11 (by decide))
    have hcv := h12 (hall 12 (by decide))
    subst hcv
    rw [hy]
    simp only [Exit.then, Act.put]
    have hA3 := (HA.out.below hB)
    clear hall hW h12 hy hcw hlo hhi h5 hx0
    have HB := Lib.hid hB
    have HC := Lib.hid hc
    have hbN : b ≠ w.heap.size + 1 := by omega
    clear hB hc hcs
    have HA3 := Lib.hid hA3
    clear hA3
    have HL' : Hid ((nextTo jm lo (hi' + 1) j).length = 61) := nextTo_len _ _ _ _
    go_wp2_with fail
    refine wp_region_inv0 (by kernel_rfl) (by kernel_rfl) (fun D w' => XW w3 w' (w.heap.size + 1) day st hot j i (hotV be hot hi') (nextTo jm lo (hi' + 1) j) (D 16) (D 18) (D 20)) ?_ ?_
    · exact XW.start HA3.out.b1 HJ.out
    iterate 5
      (apply obl_det
       case hrun =>
         intro D y wz hW hD R hR
         have HR := Lib.hid hR
         clear hR
         have HW := Lib.hid hW
         have cs := fun i => cell_of_row wz _ i _ _ _ (hW.keeps.row HA3.out.b0 (by omega))
         clear hW
         go_wp2
         exact HR.out _ HW.out
       case hnp => rfl
       case hv => first | exact ⟨_, fun _ => rfl⟩ | exact ⟨undef, fun _ => rfl⟩)
    iterate 2
      (apply obl_det
       case hrun =>
         intro D y wz hW hD R hR
         have HR := Lib.hid hR
         clear hR
         have HW := Lib.hid hW
         have h18 : D 18 = false := hD.post _ 18 rfl (by kernel_rfl)
         obtain ⟨hk, s', h', l', hrow, hl', _, hh, _⟩ := hW
         rw [hh h18] at hrow
         have cs := fun i => cell_of_row wz _ i _ _ _ hrow
         have cw := fun i => cell_of_row wz _ i _ _ _ (hk.row HC.out hbN)
         clear hk hrow hh h18 hD hl'
         go_wp2
         exact HR.out _ HW.out
       case hnp => rfl
       case hv => first | exact ⟨_, fun _ => rfl⟩ | exact ⟨undef, fun _ => rfl⟩)
    iterate 1
      (apply obl_det
       case hrun =>
         intro D y wz hW hD R hR
         have HR := Lib.hid hR
         clear hR
         have HW := Lib.hid hW
         clear hW hD
         go_wp2_with (go_at_call 36; refine (hot_any _ _ _ _ _ _ _ _ hot0 (by omega)).mono ?_; rintro e w' ⟨rfl, hbw⟩)
         exact HR.out _ (HW.out.call hbw)
       case hnp => rfl
       case hv => first | exact ⟨_, fun _ => rfl⟩ | exact ⟨undef, fun _ => rfl⟩)
    iterate 1
      (apply obl_det
       case hrun =>
         intro D y wz hW hD R hR
         have HR := Lib.hid hR
         clear hR
         have HW := Lib.hid hW
         obtain ⟨hk, s', h', l', hrow, hl', _, hh, _⟩ := hW
         have cs := fun i => cell_of_row wz _ i _ _ _ (hk.row HA3.out.b0 (by omega))
         have cw := fun i => cell_of_row wz _ i _ _ _ (hk.row HC.out hbN)
         clear hk hrow hh hD hl'
         go_wp2
         exact HR.out _ HW.out
       case hnp => rfl
       case hv => first | exact ⟨_, fun _ => rfl⟩ | exact ⟨undef, fun _ => rfl⟩)
    iterate 1
      (apply obl_det
       case hrun =>
         intro D y wz hW hD R hR
         have HR := Lib.hid hR
         clear hR
         have HW := Lib.hid hW
         have h20 : D 20 = false := hD.post _ 20 rfl (by kernel_rfl)
         obtain ⟨hk, s', h', l', hrow, hl', _, _, _, hh, _⟩ := hW
         rw [hh h20] at hrow hl'
         have HROW := Lib.hid hrow
         have HLL := Lib.hid hl'
         clear hk hrow hh hD hl' h20
         go_wp2_with (refine wpList_load_tail3 rfl 93 _ rfl _ rfl _ _ _ _ _ HROW.out Try.underlying93 rfl (by rw [HLL.out]; exact info93) ?_)
         exact HR.out _ HW.out
       case hnp => rfl
       case hv => first | exact ⟨_, fun _ => rfl⟩ | exact ⟨undef, fun _ => rfl⟩)
    iterate 4
      (apply obl_det
       case hrun =>
         intro D y wz hW hD R hR
         have HR := Lib.hid hR
         clear hR
         have HW := Lib.hid hW
         obtain ⟨hk, s', h', l', hrow, hl', _, hh, _⟩ := hW
         have cs := fun i => cell_of_row wz _ i _ _ _ (hk.row HA3.out.b0 (by omega))
         have cw := fun i => cell_of_row wz _ i _ _ _ (hk.row HC.out hbN)
         clear hk hrow hh hD hl'
         go_wp2
         exact HR.out _ HW.out
       case hnp => rfl
       case hv => first | exact ⟨_, fun _ => rfl⟩ | exact ⟨undef, fun _ => rfl⟩)
    iterate 1
      (apply obl_det
       case hrun =>
         intro D y wz hW hD R hR
         have HR := Lib.hid hR
         clear hR
         have HW := Lib.hid hW
         clear hW hD
         go_wp2_with (go_at_call 37; refine (next_any _ HJ.out _ _ _ _ _ _ _ hlo0 hhi0 hlh HJS.out).mono ?_; rintro e w' ⟨rfl, hbw⟩)
         exact HR.out _ (HW.out.call hbw)
       case hnp => rfl
       case hv => first | exact ⟨_, fun _ => rfl⟩ | exact ⟨undef, fun _ => rfl⟩)
    iterate 1
      (apply obl_det
       case hrun =>
         intro D y wz hW hD R hR
         have HR := Lib.hid hR
         clear hR
         have HW := Lib.hid hW
         obtain ⟨hk, s', h', l', hrow, hl', _, hh, _⟩ := hW
         have cs := fun i => cell_of_row wz _ i _ _ _ (hk.row HA3.out.b0 (by omega))
         have cw := fun i => cell_of_row wz _ i _ _ _ (hk.row HC.out hbN)
         clear hk hrow hh hD hl'
         go_wp2
         exact HR.out _ HW.out
       case hnp => rfl
       case hv => first | exact ⟨_, fun _ => rfl⟩ | exact ⟨undef, fun _ => rfl⟩)
    iterate 1
      (apply obl_det
       case hrun =>
         intro D y wz hW hD R hR
         have HR := Lib.hid hR
         clear hR
         have HW := Lib.hid hW
         obtain ⟨hk, s', h', l', hrow, hl', hx1, hx2, hx3, hx4, hx5⟩ := hW
         have HROW := Lib.hid hrow
         have cx := fun i => cell_of_row wz _ i _ _ _ hrow
         have fx := fun i => frozen_of_row wz _ i _ _ hrow
         have HX := Lib.hid (And.intro hk (And.intro hl' (And.intro hx2 (And.intro hx3 (And.intro hx4 hx5)))))
         clear hrow hD hk hl' hx1 hx2 hx3 hx4 hx5
         go_wp2
         obtain ⟨hk, hl', hx2, hx3, hx4, hx5⟩ := HX.out
         exact HR.out _ ⟨hk.setCell _ _, _, _, _, by rw [heap_setCell_same _ _ _ _ _ _ HROW.out, ints_set1], hl', fun _ => rfl, hx2, hx3, hx4, hx5⟩
       case hnp => rfl
       case hv => first | exact ⟨_, fun _ => rfl⟩ | exact ⟨undef, fun _ => rfl⟩)
    iterate 1
      (apply obl_det
       case hrun =>
         intro D y wz hW hD R hR
         have HR := Lib.hid hR
         clear hR
         have HW := Lib.hid hW
         obtain ⟨hk, s', h', l', hrow, hl', _, hh, _⟩ := hW
         have cs := fun i => cell_of_row wz _ i _ _ _ (hk.row HA3.out.b0 (by omega))
         have cw := fun i => cell_of_row wz _ i _ _ _ (hk.row HC.out hbN)
         clear hk hrow hh hD hl'
         go_wp2
         exact HR.out _ HW.out
       case hnp => rfl
       case hv => first | exact ⟨_, fun _ => rfl⟩ | exact ⟨undef, fun _ => rfl⟩)
    iterate 1
      (apply obl_det
       case hrun =>
         intro D y wz hW hD R hR
         have HR := Lib.hid hR
         clear hR
         have HW := Lib.hid hW
         obtain ⟨hk, s', h', l', hrow, hl', hx1, hx2, hx3, hx4, hx5⟩ := hW
         have HROW := Lib.hid hrow
         have cx := fun i => cell_of_row wz _ i _ _ _ hrow
         have fx := fun i => frozen_of_row wz _ i _ _ hrow
         have HX := Lib.hid (And.intro hk (And.intro hl' (And.intro hx1 (And.intro hx4 hx5))))
         clear hrow hD hk hl' hx1 hx2 hx3 hx4 hx5
         go_wp2
         obtain ⟨hk, hl', hx1, hx4, hx5⟩ := HX.out
         exact HR.out _ ⟨hk.setCell _ _, _, _, _, by rw [heap_setCell_same _ _ _ _ _ _ HROW.out, ints_set2], hl', hx1, fun h => absurd h (by simp), fun _ => rfl, hx4, hx5⟩
       case hnp => rfl
       case hv => first | exact ⟨_, fun _ => rfl⟩ | exact ⟨undef, fun _ => rfl⟩)
    iterate 1
      (apply obl_det
       case hrun =>
         intro D y wz hW hD R hR
         have HR := Lib.hid hR
         clear hR
         have HW := Lib.hid hW
         obtain ⟨hk, s', h', l', hrow, hl', _, hh, _⟩ := hW
         have cs := fun i => cell_of_row wz _ i _ _ _ (hk.row HA3.out.b0 (by omega))
         have cw := fun i => cell_of_row wz _ i _ _ _ (hk.row HC.out hbN)
         clear hk hrow hh hD hl'
         go_wp2
         exact HR.out _ HW.out
       case hnp => rfl
       case hv => first | exact ⟨_, fun _ => rfl⟩ | exact ⟨undef, fun _ => rfl⟩)
    iterate 1
      (apply obl_det
       case hrun =>
         intro D y wz hW hD R hR
         have HR := Lib.hid hR
         clear hR
         have HW := Lib.hid hW
         obtain ⟨hk, s', h', l', hrow, hl', hx1, hx2, hx3, hx4, hx5⟩ := hW
         clear hD
         refine wpList_store_tail3 rfl 93 _ _ rfl _ rfl (nextTo jm lo (hi' + 1) j) rfl _ _ _ _ _ hrow (by rw [HL'.out]; exact info93) (by rw [HL'.out, hl']) ?_
         exact HR.out _ ⟨hk.setRow _, _, _, _, setRow_heap _ _ _ _ _ _ hrow, HL'.out, hx1, hx2, hx3, fun h => absurd h (by simp), fun _ => rfl⟩
       case hnp => rfl
       case hv => first | exact ⟨_, fun _ => rfl⟩ | exact ⟨undef, fun _ => rfl⟩)
    apply obl_nil
    intro D y w5 hall hW
    have d16 := hall 16 (by decide)
    have d18 := hall 18 (by decide)
    have d20 := hall 20 (by decide)
    obtain ⟨hk, s', h', l', hrow, hl', hx1, hx2, hx3, hx4, hx5⟩ := hW
    rw [hx1 d16, hx3 d18, hx5 d20] at hrow
    have hS5 := hk.row HA3.out.b0 (by omega)
    have hR5 := hk.row HA3.out.b2 (by omega)
    have hB5 : Below w.heap.size w w5 := HA3.out.bel.trans (hk.toBelow (by omega) (by have := HA3.out.sz; omega))
    clear hall hx1 hx2 hx3 hx4 hx5 d16 d18 d20 hk hl'
    simp only [Exit.then, Act.put]
    have HROW := Lib.hid hrow
    have HS5 := Lib.hid hS5
    have HR5 := Lib.hid hR5
    have HB5 := Lib.hid hB5
    clear hrow hS5 hR5 hB5
    go_wp2_with fail
    have HSZ := HA3.out.sz
    have hjm : Small 101 (nextTo jm lo (hi' + 1) j) := nextTo_small HJS.out (by omega) jm lo (hi' + 1)
    have HJM := Lib.hid hjm
    clear hjm
    obtain ⟨r1, hr1⟩ : ∃ r, decide (hotV be hot hi' < d) = r := ⟨_, rfl⟩
    have HR1 := Lib.hid hr1
    have HRES : Hid (AfterRes w be d t hi' jm lo hot day i j = fun e w' => e = .returned (.tuple #[.agg (ints ((day : Int) :: i :: hotV be hot hi' :: nextTo jm lo (hi' + 1) j)), .bool (r1 && decide (maxTo (nextTo jm lo (hi' + 1) j) 61 - 1 < t))]) ∧ Below w.heap.size w w') := by
      unfold Hid AfterRes; rw [hr1]
    cases r1
    case true =>
      refine wp_region_inv0 (by kernel_rfl) (by kernel_rfl) (fun D w' => RW w5 w' (w.heap.size + 1 + 1) (ints ((day : Int) :: i :: hotV be hot hi' :: nextTo jm lo (hi' + 1) j)) (D 18)) (RW.start HR5.out HR64.out) ?_
      iterate 1
        (apply obl_det
         case hrun =>
           intro D y wz hW hD R hR
           have HR := Lib.hid hR
           clear hR
           have HW := Lib.hid hW
           have hxr := hW.keeps.row HROW.out (by omega)
           have cs := fun i => cell_of_row wz _ i _ _ _ (hW.keeps.row HS5.out (by omega))
           have cx := fun i => cell_of_row wz _ i _ _ _ hxr
           have HXR := Lib.hid hxr
           clear hW hD hxr
           go_wp2_with (refine wpList_load_row rfl 99 _ rfl _ rfl _ _ _ _ HXR.out Try.underlying99 rfl (by rw [ints_size]; simp only [List.length_cons, HL'.out]; exact info99) ?_)
           exact HR.out _ HW.out
         case hnp => rfl
         case hv => first | exact ⟨_, fun _ => rfl⟩ | exact ⟨undef, fun _ => rfl⟩)
      iterate 8
        (apply obl_det
         case hrun =>
           intro D y wz hW hD R hR
           have HR := Lib.hid hR
           clear hR
           have HW := Lib.hid hW
           have hxr := hW.keeps.row HROW.out (by omega)
           have cs := fun i => cell_of_row wz _ i _ _ _ (hW.keeps.row HS5.out (by omega))
           have cx := fun i => cell_of_row wz _ i _ _ _ hxr
           have HXR := Lib.hid hxr
           clear hW hD hxr
           go_wp2
           exact HR.out _ HW.out
         case hnp => rfl
         case hv => first | exact ⟨_, fun _ => rfl⟩ | exact ⟨undef, fun _ => rfl⟩)
      iterate 1
        (apply obl_det
         case hrun =>
           intro D y wz hW hD R hR
           have HR := Lib.hid hR
           clear hR
           have HW := Lib.hid hW
           have hxr := hW.keeps.row HROW.out (by omega)
           have cs := fun i => cell_of_row wz _ i _ _ _ (hW.keeps.row HS5.out (by omega))
           have cx := fun i => cell_of_row wz _ i _ _ _ hxr
           have HXR := Lib.hid hxr
           clear hW hD hxr
           go_wp2
           exact HR.out _ HW.out
         case hnp => rfl
         case hv => first | exact ⟨_, fun _ => rfl⟩ | exact ⟨undef, fun _ => rfl⟩)
      iterate 1
        (apply obl_det
         case hrun =>
           intro D y wz hW hD R hR
           have HR := Lib.hid hR
           clear hR
           have HW := Lib.hid hW
           have hxr := hW.keeps.row HROW.out (by omega)
           have cs := fun i => cell_of_row wz _ i _ _ _ (hW.keeps.row HS5.out (by omega))
           have cx := fun i => cell_of_row wz _ i _ _ _ hxr
           have HXR := Lib.hid hxr
           clear hW hD hxr
           refine BigFrame.wpList_want rfl fun K hK => wp_load_tail3 93 _ rfl _ rfl _ _ _ _ _ HXR.out Try.underlying93 rfl (by rw [HL'.out]; exact info93) (hK _ _ ?_)
           exact HR.out _ HW.out
         case hnp => rfl
         case hv => first | exact ⟨_, fun _ => rfl⟩ | exact ⟨undef, fun _ => rfl⟩)
      iterate 1
        (apply obl_det
         case hrun =>
           intro D y wz hW hD R hR
           have HR := Lib.hid hR
           clear hR
           have HW := Lib.hid hW
           clear hW hD
           go_wp2_with (go_at_call 38; refine (most_any _ HL'.out _ 101 HJM.out (by omega)).mono ?_; rintro e w' ⟨rfl, hbw⟩)
           exact HR.out _ (HW.out.call hbw)
         case hnp => rfl
         case hv => first | exact ⟨_, fun _ => rfl⟩ | exact ⟨undef, fun _ => rfl⟩)
      iterate 6
        (apply obl_det
         case hrun =>
           intro D y wz hW hD R hR
           have HR := Lib.hid hR
           clear hR
           have HW := Lib.hid hW
           have hxr := hW.keeps.row HROW.out (by omega)
           have cs := fun i => cell_of_row wz _ i _ _ _ (hW.keeps.row HS5.out (by omega))
           have cx := fun i => cell_of_row wz _ i _ _ _ hxr
           have HXR := Lib.hid hxr
           clear hW hD hxr
           go_wp2
           exact HR.out _ HW.out
         case hnp => rfl
         case hv => first | exact ⟨_, fun _ => rfl⟩ | exact ⟨undef, fun _ => rfl⟩)
      iterate 1
        (apply obl_det
         case hrun =>
           intro D y wz hW hD R hR
           have HR := Lib.hid hR
           clear hR
           have HW := Lib.hid hW
           obtain ⟨hk, r', hr', hr'', _⟩ := hW
           clear hD
           refine wpList_store_row rfl 99 _ _ rfl _ (ints ((day : Int) :: i :: hotV be hot hi' :: nextTo jm lo (hi' + 1) j)) rfl rfl _ _ hr' (by rw [ints_size]; simp only [List.length_cons, HL'.out]; exact info99) (by rw [ints_size, hr'']; simp only [List.length_cons, HL'.out]) (ints_oneCell _) ?_
           exact HR.out _ ⟨hk.setRow _, _, setRow_heap _ _ _ _ _ _ hr', by rw [ints_size]; simp only [List.length_cons, HL'.out], fun _ => rfl⟩
         case hnp => rfl
         case hv => first | exact ⟨_, fun _ => rfl⟩ | exact ⟨undef, fun _ => rfl⟩)
      iterate 1
        (apply obl_det
         case hrun =>
           intro D y wz hW hD R hR
           have HR := Lib.hid hR
           clear hR
           have HW := Lib.hid hW
           clear hW hD
           go_wp2
           exact HR.out _ HW.out
         case hnp => rfl
         case hv => first | exact ⟨_, fun _ => rfl⟩ | exact ⟨undef, fun _ => rfl⟩)
      apply obl_nil
      intro D y w6 hall hW
      have d18 := hall 18 (by decide)
      obtain ⟨hk, r', hr', _, hcs⟩ := hW
      rw [hcs d18] at hr'
      have HR6 := Lib.hid hr'
      have HB6 := Lib.hid (HB5.out.trans (hk.toBelow (B := w.heap.size) (by omega) HB5.out.size))
      clear hall hcs d18 hr' hk
      simp only [Exit.then]
      go_wp2_with fail
      refine bodyPost_ret (v := .tuple #[.agg (ints ((day : Int) :: i :: hotV be hot hi' :: nextTo jm lo (hi' + 1) j)), .bool (decide (maxTo (nextTo jm lo (hi' + 1) j) 61 - 1 < t))]) ?_ rfl ?_
      rotate_right
      · rw [HRES.out]
        exact ⟨rfl, HB6.out⟩
      · rw [results_cell_tmp (fn := Try.f42) rfl]
        have hl := run_loadVar_row (P := Try.prog) w6 _ _ 99 _ _ _ HR6.out Try.underlying99 rfl (by rw [ints_size]; simp only [List.length_cons, HL'.out]; exact info99)
        simp only [asAddr]
        simp [hl]
    case false =>
      refine wp_region_inv0 (by kernel_rfl) (by kernel_rfl) (fun D w' => RW w5 w' (w.heap.size + 1 + 1) (ints ((day : Int) :: i :: hotV be hot hi' :: nextTo jm lo (hi' + 1) j)) (D 18)) (RW.start HR5.out HR64.out) ?_
      iterate 1
        (apply obl_det
         case hrun =>
           intro D y wz hW hD R hR
           have HR := Lib.hid hR
           clear hR
           have HW := Lib.hid hW
           have hxr := hW.keeps.row HROW.out (by omega)
           have cs := fun i => cell_of_row wz _ i _ _ _ (hW.keeps.row HS5.out (by omega))
           have cx := fun i => cell_of_row wz _ i _ _ _ hxr
           have HXR := Lib.hid hxr
           clear hW hD hxr
           go_wp2_with (refine wpList_load_row rfl 99 _ rfl _ rfl _ _ _ _ HXR.out Try.underlying99 rfl (by rw [ints_size]; simp only [List.length_cons, HL'.out]; exact info99) ?_)
           exact HR.out _ HW.out
         case hnp => rfl
         case hv => first | exact ⟨_, fun _ => rfl⟩ | exact ⟨undef, fun _ => rfl⟩)
      iterate 8
        (apply obl_det
         case hrun =>
           intro D y wz hW hD R hR
           have HR := Lib.hid hR
           clear hR
           have HW := Lib.hid hW
           have hxr := hW.keeps.row HROW.out (by omega)
           have cs := fun i => cell_of_row wz _ i _ _ _ (hW.keeps.row HS5.out (by omega))
           have cx := fun i => cell_of_row wz _ i _ _ _ hxr
           have HXR := Lib.hid hxr
           clear hW hD hxr
           go_wp2
           exact HR.out _ HW.out
         case hnp => rfl
         case hv => first | exact ⟨_, fun _ => rfl⟩ | exact ⟨undef, fun _ => rfl⟩)
      iterate 8
        (apply obl_det
         case hrun =>
           intro D y wz hW hD R hR
           have HR := Lib.hid hR
           clear hR
           have HW := Lib.hid hW
           clear hW hD
           go_wp2
           exact HR.out _ HW.out
         case hnp => rfl
         case hv => first | exact ⟨_, fun _ => rfl⟩ | exact ⟨undef, fun _ => rfl⟩)
      iterate 1
        (apply obl_det
         case hrun =>
           intro D y wz hW hD R hR
           have HR := Lib.hid hR
           clear hR
           have HW := Lib.hid hW
           have hxr := hW.keeps.row HROW.out (by omega)
           have cs := fun i => cell_of_row wz _ i _ _ _ (hW.keeps.row HS5.out (by omega))
           have cx := fun i => cell_of_row wz _ i _ _ _ hxr
           have HXR := Lib.hid hxr
           clear hW hD hxr
           go_wp2
           exact HR.out _ HW.out
         case hnp => rfl
         case hv => first | exact ⟨_, fun _ => rfl⟩ | exact ⟨undef, fun _ => rfl⟩)
      iterate 1
        (apply obl_det
         case hrun =>
           intro D y wz hW hD R hR
           have HR := Lib.hid hR
           clear hR
           have HW := Lib.hid hW
           obtain ⟨hk, r', hr', hr'', _⟩ := hW
           clear hD
           refine wpList_store_row rfl 99 _ _ rfl _ (ints ((day : Int) :: i :: hotV be hot hi' :: nextTo jm lo (hi' + 1) j)) rfl rfl _ _ hr' (by rw [ints_size]; simp only [List.length_cons, HL'.out]; exact info99) (by rw [ints_size, hr'']; simp only [List.length_cons, HL'.out]) (ints_oneCell _) ?_
           exact HR.out _ ⟨hk.setRow _, _, setRow_heap _ _ _ _ _ _ hr', by rw [ints_size]; simp only [List.length_cons, HL'.out], fun _ => rfl⟩
         case hnp => rfl
         case hv => first | exact ⟨_, fun _ => rfl⟩ | exact ⟨undef, fun _ => rfl⟩)
      iterate 1
        (apply obl_det
         case hrun =>
           intro D y wz hW hD R hR
           have HR := Lib.hid hR
           clear hR
           have HW := Lib.hid hW
           clear hW hD
           go_wp2
           exact HR.out _ HW.out
         case hnp => rfl
         case hv => first | exact ⟨_, fun _ => rfl⟩ | exact ⟨undef, fun _ => rfl⟩)
      apply obl_nil
      intro D y w6 hall hW
      have d18 := hall 18 (by decide)
      obtain ⟨hk, r', hr', _, hcs⟩ := hW
      rw [hcs d18] at hr'
      have HR6 := Lib.hid hr'
      have HB6 := Lib.hid (HB5.out.trans (hk.toBelow (B := w.heap.size) (by omega) HB5.out.size))
      clear hall hcs d18 hr' hk
      simp only [Exit.then]
      go_wp2_with fail
      refine bodyPost_ret (v := .tuple #[.agg (ints ((day : Int) :: i :: hotV be hot hi' :: nextTo jm lo (hi' + 1) j)), .bool false]) ?_ rfl ?_
      rotate_right
      · rw [HRES.out]
        exact ⟨rfl, HB6.out⟩
      · rw [results_cell_tmp (fn := Try.f42) rfl]
        have hl := run_loadVar_row (P := Try.prog) w6 _ _ 99 _ _ _ HR6.out Try.underlying99 rfl (by rw [ints_size]; simp only [List.length_cons, HL'.out]; exact info99)
        simp only [asAddr]
        simp [hl]
end Go.Proofs.Ytddapabmfecidaa
