/- melt. -/
import Derived.Test.YtaigbhhmmdfdcaaW12
import Derived.Laws.ResultCell
namespace Go.Proofs.Ytaigbhhmmdfdcaa
open Go.RowKit
/-- The batches that melt hands back. -/
structure AllW (B : Nat) (w : World) (s : Shop) (l : List Bat) (g : Nat → Nat) (bo : Nat → BO) (va : Value) (wr : World) : Prop where
  bel : Below B w wr
  le : B ≤ wr.heap.size
  obj : ∀ i, i < l.length → wr.heap[g i]? = some (.cells (bo i).c 111)
  ge : ∀ i, i < l.length → B ≤ g i
  row : wr.ownsRow B 106 1 va l.length ((List.range l.length).map fun i => .pointer (some ⟨g i, 0, none⟩))
  ok : ∀ i, i < l.length → BoOk B w s l l.length i (bo i)
section
variable {B : Nat} {w wr w' : World} {s : Shop} {l : List Bat} {g : Nat → Nat} {bo : Nat → BO} {va : Value}
theorem AllW.call (h : AllW B w s l g bo va wr) (hb : Below wr.heap.size wr w') : AllW B w s l g bo va w' :=
  ⟨h.bel.trans (hb.mono h.le), Nat.le_trans h.le hb.size, fun i hi => block_keep (h.obj i hi) hb, h.ge, ownsRow.below h.row hb, h.ok⟩
theorem AllW.alloc (h : AllW B w s l g bo va wr) (o : Obj) : AllW B w s l g bo va (wr.alloc o) := h.call ((Below.refl _ _).alloc (Nat.le_refl _) o)
theorem AllW.drew (h : AllW B w s l g bo va wr) (n : Nat) : AllW B w s l g bo va (wr.drewN n) := h.call (below_drewN (Below.refl _ _) n)
/-- A row of another kind grows, a block of another kind is turned. -/
theorem AllW.grown (h : AllW B w s l g bo va wr) {base sz n : Nat} {e : TypeId} {v : Value} {xs : List Value} (ho : wr.ownsRow base e sz v n xs) (hg : wr.grownBy w' v.ownBlock) (hb : B ≤ base) (h1 : e ≠ 111) (h2 : e ≠ 106) : AllW B w s l g bo va w' := by
  refine ⟨h.bel.trans (grown_below ho hg hb h.le), Nat.le_trans h.le hg.size, fun i hi => grown_keep ho hg (h.obj i hi) (Ne.symm h1), h.ge, ⟨h.row.1, ?_⟩, h.ok⟩
  rcases h.row.2 with h0 | ⟨b, cap, cur, e1, e2, e3, e4⟩
  · exact .inl h0
  · exact .inr ⟨b, cap, cur, e1, e2, grown_keep ho hg e3 (Ne.symm h2), e4⟩
theorem AllW.but (h : AllW B w s l g bo va wr) {gb : Nat} (hb : But gb wr w') (hB : B ≤ gb) {cs : Array Value} {t : TypeId} (hg : wr.heap[gb]? = some (.cells cs t)) (h1 : t ≠ 111) (h2 : t ≠ 106) : AllW B w s l g bo va w' := by
  refine ⟨h.bel.trans (hb.below hB h.le), Nat.le_trans h.le hb.size, fun i hi => ?_, h.ge, ownsRow.but h.row hb hg h2, h.ok⟩
  rw [hb.block _ (block_lt (h.obj i hi)) (by rintro rfl; rw [h.obj i hi] at hg; cases hg; exact h1 rfl)]
  exact h.obj i hi
theorem AllW.ptr (h : AllW B w s l g bo va wr) {i : Nat} (hi : i < l.length) : ∃ b c, va = .slice (some ⟨b, 0, none⟩) l.length c ∧ l.length ≤ c ∧ b < wr.heap.size ∧ wr.cell? ⟨b, i, none⟩ = some (.pointer (some ⟨g i, 0, none⟩)) := by
  obtain ⟨a, c, e⟩ := ownsRow_slice h.row
  subst e
  obtain ⟨b, e2, hb, hc, hcell⟩ := ownsRow_cell h.row hi
  subst e2
  refine ⟨b, c, rfl, hc, hb, ?_⟩
  rw [hcell, List.getElem?_map, List.getElem?_range hi]
  rfl
theorem AllW.shape (h : AllW B w s l g bo va wr) : ∃ a c, va = .slice a l.length c := ownsRow_slice h.row
/-- The cells of a batch. -/
theorem AllW.wt (h : AllW B w s l g bo va wr) {i : Nat} (hi : i < l.length) : wr.cell? ⟨g i, 3, none⟩ = some (.int .i64 (weightV (l.getD i default))) := by
  rw [cell_of_row _ _ 3 _ _ _ (h.obj i hi), ← (h.ok i hi).1]; rfl
theorem AllW.tk (h : AllW B w s l g bo va wr) {i : Nat} (hi : i < l.length) : wr.cell? ⟨g i, 4, none⟩ = some (.int .i64 (takenV l i l.length)) := by
  rw [cell_of_row _ _ 4 _ _ _ (h.obj i hi), ← (h.ok i hi).2.1]; rfl
theorem AllW.lo (h : AllW B w s l g bo va wr) {i : Nat} (hi : i < l.length) {t : Nat} (ht : t < 5) : wr.cell? ⟨g i, 5 + t * 2, none⟩ = some (.int .i64 (micV s l i t).1) := by
  rw [cell_of_row _ _ _ _ _ _ (h.obj i hi), ← (h.ok i hi).2.2.1]; exact (bo i).lo ht
theorem AllW.hi (h : AllW B w s l g bo va wr) {i : Nat} (hi : i < l.length) {t : Nat} (ht : t < 5) : wr.cell? ⟨g i, 5 + t * 2 + 1, none⟩ = some (.int .i64 (micV s l i t).2) := by
  rw [cell_of_row _ _ _ _ _ _ (h.obj i hi), ← (h.ok i hi).2.2.1]; exact (bo i).hi ht
theorem AllW.plo (h : AllW B w s l g bo va wr) {i : Nat} (hi : i < l.length) {t : Nat} (ht : t < 5) : wr.cell? ⟨g i, 15 + t * 2, none⟩ = some (.int .i64 (parV s l i t).1) := by
  rw [cell_of_row _ _ _ _ _ _ (h.obj i hi), ← (h.ok i hi).2.2.2.1]; exact (bo i).plo ht
theorem AllW.phi (h : AllW B w s l g bo va wr) {i : Nat} (hi : i < l.length) {t : Nat} (ht : t < 5) : wr.cell? ⟨g i, 15 + t * 2 + 1, none⟩ = some (.int .i64 (parV s l i t).2) := by
  rw [cell_of_row _ _ _ _ _ _ (h.obj i hi), ← (h.ok i hi).2.2.2.1]; exact (bo i).phi ht
end
theorem MS.all {B : Nat} {w wr : World} {s : Shop} {l : List Bat} {g : Nat → Nat} {bo : Nat → BO} {gs ga : Nat} {vt vl va : Value} (h : MS B w l.length g bo gs ga vt vl va wr) (ho : ∀ i, i < l.length → BoOk B w s l l.length i (bo i)) : AllW B w s l g bo va wr :=
  ⟨h.bel, h.le, h.obj, h.ge, h.row, ho⟩
/-- Sound batches. -/
structure AllOk (s : Shop) (l : List Bat) : Prop where
  sh : ShopOk s
  l1 : 1 ≤ l.length
  l6 : l.length ≤ 6
  pre : Prefix s l l.length
theorem all_ok {s : Shop} {l : List Bat} (h : batchesE s l = 0) : AllOk s l := by
  unfold batchesE at h
  split at h
  · rename_i h1; exact absurd h h1
  · rename_i h1
    split at h
    · simp at h
    · rename_i h2
      have h3 := outOne_false.1 (Bool.eq_false_iff.2 h2)
      exact ⟨shop_ok (by simpa using h1), by omega, by omega, map_range_zero.1 h⟩
/-- What melt hands back. -/
def MeltPost (w : World) (s : Shop) (l : List Bat) : Ending → World → Prop := fun e w' =>
  (batchesE s l ≠ 0 → e = .returned (.tuple #[.slice none 0 0, .int .i64 (batchesE s l)]) ∧ Below w.heap.size w w') ∧
  (batchesE s l = 0 → ∃ g bo va, e = .returned (.tuple #[va, .int .i64 0]) ∧ AllW w.heap.size w s l g bo va w')
theorem results_cell1_tmp {fn : Func} {p u : Tmp} (h : fn.results = #[.cell p 103, .tmp u]) (tmps : Array Value) (w : World) (g : Nat) (v : Value) (hp : tmps.getD p undef = .pointer (some ⟨g, 0, none⟩)) (hc : w.cell? ⟨g, 0, none⟩ = some v) :
    (results fn tmps).run Try.prog w = .ok (.tuple #[v, tmps.getD u undef]) w := by
  rw [results_cell_tmp h, hp]
  simp [asAddr, loadVar, Sem.run_bind, go_sem, hc]
set_option maxRecDepth 100000 in
set_option maxHeartbeats 8000000 in
/-- melt -/
theorem melt_any (s : Shop) (l : List Bat) (vt vl v : Value) (w : World) (hv : ShopAt w.heap.size w vt vl s) (hl' : BatsIn w.heap.size w v l) :
    Calls Try.prog 65 #[.agg #[vt, vl], v] w (MeltPost w s l) := by
  have HV := Lib.hid hv
  have HL := Lib.hid hl'
  obtain ⟨ta, tc, rfl, -, htl⟩ := sl_shape hv.1
  obtain ⟨la, lc, rfl, -, hll⟩ := sl_shape hv.2
  obtain ⟨va, vc, rfl, -, hvl⟩ := sl_shape hl'
  clear hv hl'
  have HE : Hid (batchesE s l = if checkE s ≠ 0 then checkE s else if outOne 1 6 l.length then 3 else (findE (batchEs s l) 0).2) := rfl
  have HCE : Hid ((checkV s).2.2 = checkE s) := rfl
  have HCH := fun w h => Lib.hid (check_any s (.slice ta s.things.length tc) (.slice la s.lots.length lc) w h)
  have C0 := Lib.hid (((Bs.nil w).push _ rfl (.cells #[.slice ta s.things.length tc, .slice la s.lots.length lc] 25)).push (w.heap.size + 1) (by simp) (.cells #[.slice none 0 0] 103))
  unfold MeltPost
  obtain ⟨E, hE⟩ : ∃ x, batchesE s l = x := ⟨_, rfl⟩
  rw [hE] at HE ⊢
  obtain ⟨cv, hcv⟩ : ∃ x, checkV s = x := ⟨_, rfl⟩
  simp only [hcv] at HCH HCE
  obtain ⟨p1, p2, p3⟩ := cv
  simp only at HCH HCE
  obtain ⟨r2, hr2⟩ : ∃ r, outOne 1 6 (l.length : Int) = r := ⟨_, rfl⟩
  rw [hr2, ← HCE.out] at HE
  have HR2 := Lib.hid hr2
  clear hE hcv hr2
  go_enter Try.func65, Try.ntmps65
  go_wp2_with fail
  refine (HCH _ ((HV.out.below C0.out.bel).mono C0.out.bel.size)).out.mono ?_
  rintro e w1 ⟨rfl, hb1⟩
  have C1 := Lib.hid (C0.out.call hb1)
  clear hb1 C0
  by_cases hz : p3 = 0
  case neg =>
    have hz2 : (p3 != 0) = true := by simpa using hz
    have HZ := Lib.hid hz
    clear hz
    have hf := C1.out.free 1 rfl 0
    have hc := C1.out.cell 1 rfl 0
    go_wp2_with (refine wpList_cell_bs rfl 103 _ _ rfl C1.out 1 (w.heap.size + 1) 0 _ 103 rfl rfl (.slice none 0 0) rfl (by simp) rfl info103 ?_; intro w2 C2)
    have HEE : Hid (E = p3) := by unfold Hid; rw [HE.out, if_pos HZ.out]
    refine bodyPost_ret (v := .tuple #[.slice none 0 0, .int .i64 p3]) ?_ rfl ?_
    · rw [results_cell1_tmp rfl _ _ (w.heap.size + 1) (.slice none 0 0) rfl (by rw [C2.cell 1 rfl]; rfl)]
      rfl
    · rw [HEE.out]
      exact ⟨fun _ => ⟨rfl, C2.bel⟩, fun h => absurd h HZ.out⟩
  subst hz
  have C1A := Lib.hid (C1.out.push _ rfl (.cells #[.int .i64 (l.length : Nat)] 3))
  go_wp2_with fail
  refine (out_one r2 1 6 _ HR2.out _ _ (C1A.out.get 2 rfl)).mono ?_
  rintro e w2 ⟨rfl, hb1⟩
  have C2 := Lib.hid ((C1A.out.call hb1).sub [(w.heap.size, .cells #[.slice ta s.things.length tc, .slice la s.lots.length lc] 25), (w.heap.size + 1, .cells #[.slice none 0 0] 103)] (by simp))
  clear hb1 C1 C1A
  cases r2
  case true =>
    go_wp2_with (refine wpList_cell_bs rfl 103 _ _ rfl C2.out 1 (w.heap.size + 1) 0 _ 103 rfl rfl (.slice none 0 0) rfl (by simp) rfl info103 ?_; intro w3 C3)
    have HEE : Hid (E = 3) := by unfold Hid; rw [HE.out]; simp
    refine bodyPost_ret (v := .tuple #[.slice none 0 0, .int .i64 3]) ?_ rfl ?_
    · rw [results_cell1_tmp rfl _ _ (w.heap.size + 1) (.slice none 0 0) rfl (by rw [C3.cell 1 rfl]; rfl)]
      rfl
    · rw [HEE.out]
      exact ⟨fun _ => ⟨rfl, C3.bel⟩, fun h => (by simp at h)⟩
  have HEE : Hid (E = (findE (batchEs s l) 0).2) := by unfold Hid; rw [HE.out]; simp
  have hl6 := (outOne_false.1 HR2.out).2
  have HSO := Lib.hid (shop_ok HCE.out.symm)
  have HM0 : Hid (MS w.heap.size w 0 (fun _ => 0) (fun _ => bo0 .nilFunc .nilFunc .nilFunc) w.heap.size (w.heap.size + 1) (.slice ta s.things.length tc) (.slice la s.lots.length lc) (.slice none 0 0) w2) :=
    ⟨C2.out.bel, C2.out.bel.size, fun i hi => by omega, fun i j hi => by omega, fun i hi => by omega, C2.out.get 0 rfl, Nat.le_refl _, C2.out.get 1 rfl, by omega, World.ownsRow_nil _ _ 106 1⟩
  clear C2 HE
  go_wp2_with fail
  refine (firstBat_any w.heap.size w w2 s HSO.out l (by omega) w.heap.size (w.heap.size + 1) _ _ _ _ HV.out HL.out _ _ HM0.out).mono ?_
  rintro e w3 ⟨⟨at', rfl⟩, hb3, hal, hok⟩
  have HB3 := Lib.hid hb3
  have HOK := Lib.hid hok
  obtain ⟨vx, hal⟩ := hal
  have HAL := Lib.hid hal
  clear hb3 hok hal HM0
  generalize (findE (batchEs s l) 0).2 = e2 at *
  by_cases hz : e2 = 0
  case neg =>
    have hz2 : (e2 != 0) = true := by simpa using hz
    have HZ := Lib.hid hz
    clear hz
    go_wp2_with (refine wpList_cell_but rfl 103 _ _ rfl (w.heap.size + 1) 0 _ 103 HAL.out rfl (.slice none 0 0) rfl (by simp) rfl info103 ?_; intro w4 hg4 hb4)
    refine bodyPost_ret (v := .tuple #[.slice none 0 0, .int .i64 e2]) ?_ rfl ?_
    · rw [results_cell1_tmp rfl _ _ (w.heap.size + 1) (.slice none 0 0) rfl (by rw [cell_of_row _ _ _ _ _ _ hg4]; rfl)]
      rfl
    · rw [HEE.out]
      exact ⟨fun _ => ⟨rfl, HB3.out.trans (hb4.below (by omega) HB3.out.size)⟩, fun h => absurd h HZ.out⟩
  subst hz
  obtain ⟨g, bo, vr, hM, hbo⟩ := HOK.out rfl
  have HM := Lib.hid hM
  have HA := Lib.hid (hM.all hbo)
  clear hM hbo HOK
  have q1 : w3.cell? ⟨w.heap.size + 1, 0, none⟩ = some vr := cell_of_row _ _ 0 _ _ _ HM.out.al
  obtain ⟨ra, rc, hvr⟩ := HA.out.shape
  subst hvr
  go_wp2_with (refine wpList_cell_but rfl 103 _ _ rfl (w.heap.size + 1) 0 _ 103 HM.out.al rfl (.slice ra l.length rc) rfl (by simp) rfl info103 ?_; intro w4 hg4 hb4)
  refine bodyPost_ret (v := .tuple #[.slice ra l.length rc, .int .i64 0]) ?_ rfl ?_
  · rw [results_cell1_tmp rfl _ _ (w.heap.size + 1) (.slice ra l.length rc) rfl (by rw [cell_of_row _ _ _ _ _ _ hg4]; rfl)]
    rfl
  · rw [HEE.out]
    exact ⟨fun h => absurd rfl h, fun _ => ⟨g, bo, _, rfl, HA.out.but hb4 (by omega) HM.out.al (by decide) (by decide)⟩⟩
end Go.Proofs.Ytaigbhhmmdfdcaa
