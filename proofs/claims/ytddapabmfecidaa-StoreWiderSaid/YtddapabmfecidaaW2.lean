/- The walk of (jumps).next: the new jumps of a day. -/
import Derived.Test.YtddapabmfecidaaW1
namespace Go.Proofs.Ytddapabmfecidaa
open Go.RowKit

def stepV (jm n : Int) (b now : Int) : Int := if decide (0 < n) && jumpB jm b now then n + 1 else n
def startV (j : List Int) : Int := if j = List.replicate 61 0 then 1 else 0
def foldV (jm : Int) (j : List Int) (now : Int) : Nat → Int
  | 0 => startV j
  | b + 1 => max (foldV jm j now b) (stepV jm (j.getD b 0) b now)
def cellV (jm lo k : Int) (j : List Int) (i : Nat) : Int := if lo ≤ (i : Int) ∧ (i : Int) < k then foldV jm j i 61 else 0
def nextTo (jm lo k : Int) (j : List Int) : List Int := (List.range 61).map (cellV jm lo k j)

theorem nextTo_len (jm lo k : Int) (j : List Int) : (nextTo jm lo k j).length = 61 := by simp [nextTo]
theorem nextTo_start (jm lo : Int) (j : List Int) : nextTo jm lo lo j = List.replicate 61 0 := by
  unfold nextTo
  rw [show List.replicate 61 (0 : Int) = (List.range 61).map fun _ => 0 from by decide]
  refine List.map_congr_left fun i _ => ?_
  unfold cellV
  rw [if_neg (by omega)]
theorem nextTo_at (jm lo k : Int) (j : List Int) (i : Nat) (h : i < 61) : (nextTo jm lo k j).getD i 0 = cellV jm lo k j i := by
  simp [nextTo, List.getD, h]
theorem nextTo_set (jm lo : Int) (j : List Int) (k : Nat) (_h : k < 61) (hk : lo ≤ k) : (nextTo jm lo k j).set k (foldV jm j k 61) = nextTo jm lo (k + 1) j := by
  refine List.ext_getElem (by simp [nextTo]) fun i h1 h2 => ?_
  simp only [nextTo, List.length_set, List.length_map, List.length_range] at h1 h2
  rw [List.getElem_set]
  simp only [nextTo, List.getElem_map, List.getElem_range, cellV]
  split
  · subst_vars; rw [if_pos (by omega)]
  · by_cases hh : lo ≤ (i : Int) ∧ (i : Int) < k
    · rw [if_pos hh, if_pos (by omega)]
    · rw [if_neg hh, if_neg (by omega)]

/-- No jumps so far are more than n. -/
def Small (n : Int) (j : List Int) : Prop := ∀ i, 0 ≤ j.getD i 0 ∧ j.getD i 0 ≤ n
/-- No jumps at all. -/
def zeroB (j : List Int) : Bool := decide (j = List.replicate 61 0)
theorem startV_zero {j : List Int} (h : zeroB j = true) : startV j = 1 := by unfold startV; rw [if_pos (by simpa [zeroB] using h)]
theorem startV_not {j : List Int} (h : zeroB j = false) : startV j = 0 := by unfold startV; rw [if_neg (by simpa [zeroB] using h)]
theorem foldV_small {n : Int} {j : List Int} (h : Small n j) (hn : 0 ≤ n) (jm now : Int) : ∀ b, 0 ≤ foldV jm j now b ∧ foldV jm j now b ≤ n + 1
  | 0 => by unfold foldV startV; split <;> omega
  | b + 1 => by
    have := foldV_small h hn jm now b
    have h2 := h b
    unfold foldV stepV
    split <;> omega

theorem nextTo_small {n : Int} {j : List Int} (h : Small n j) (hn : 0 ≤ n) (jm lo k : Int) : Small (n + 1) (nextTo jm lo k j) := by
  intro i
  by_cases hi : i < 61
  · rw [nextTo_at _ _ _ _ _ hi]
    unfold cellV
    split
    · exact foldV_small h hn jm i 61
    · omega
  · have : (nextTo jm lo k j).getD i 0 = 0 := by
      rw [List.getD_eq_getElem?_getD, List.getElem?_eq_none (by rw [nextTo_len]; omega)]; rfl
    rw [this]; omega

theorem info3 : (Try.prog.info? 3).map (·.size) = some 1 := by kernel_rfl
theorem info93 : (Try.prog.info? 93).map (·.size) = some 61 := by kernel_rfl

/-- The four blocks of (jumps).next, where the new jumps are T. -/
structure NW (w wr : World) (j : List Int) (b d jm t lo hi : Int) (T : List Int) : Prop where
  b0 : wr.heap[w.heap.size]? = some (.cells (ints j) 93)
  b1 : wr.heap[w.heap.size + 1]? = some (.cells #[Value.int IntKind.i64 b, Value.int IntKind.i64 d, Value.int IntKind.i64 jm, Value.int IntKind.i64 t] 28)
  b2 : wr.heap[w.heap.size + 1 + 1]? = some (.cells #[Value.int IntKind.i64 lo, Value.int IntKind.i64 hi] 53)
  b3 : wr.heap[w.heap.size + 1 + 1 + 1]? = some (.cells (ints T) 93)
  bel : Below w.heap.size w wr
theorem NW.call {w wr w' : World} {j : List Int} {b d jm t lo hi : Int} {T : List Int} (h : NW w wr j b d jm t lo hi T) (hb : Below wr.heap.size wr w') : NW w w' j b d jm t lo hi T :=
  ⟨block_keep h.b0 hb, block_keep h.b1 hb, block_keep h.b2 hb, block_keep h.b3 hb, h.bel.trans (hb.mono h.bel.size)⟩
theorem NW.store {w wr : World} {j : List Int} {b d jm t lo hi : Int} {T : List Int} (h : NW w wr j b d jm t lo hi T) (k : Nat) (x : Int) :
    NW w (wr.setCell ⟨w.heap.size + 1 + 1 + 1, k, none⟩ (.int .i64 x)) j b d jm t lo hi (T.set k x) := by
  refine ⟨?_, ?_, ?_, ?_, h.bel.setCell (by simp; omega) _⟩
  · rw [heap_setCell_other _ _ _ _ (by simp; omega)]; exact h.b0
  · rw [heap_setCell_other _ _ _ _ (by simp)]; exact h.b1
  · rw [heap_setCell_other _ _ _ _ (by simp)]; exact h.b2
  · rw [heap_setCell_same _ _ _ _ _ _ h.b3, ints_set]

theorem NW.fold {w wr : World} {j : List Int} {b d jm t lo hi : Int} {T : List Int} {k : Nat} {F : Int} (h : NW w wr j b d jm t lo hi (T.set k F)) {x G : Int} (hx : x = G) :
    NW w (wr.setCell ⟨w.heap.size + 1 + 1 + 1, k, none⟩ (.int .i64 x)) j b d jm t lo hi (T.set k G) := by
  have := h.store k x
  rw [List.set_set, hx] at this
  rw [hx]
  exact this
theorem jump_r (r : Bool) (b d j t x y : Int) (hr : jumpB j x y = r) (w : World) (hx0 : 0 ≤ x) (hx : x ≤ 60) (hy0 : 0 ≤ y) (hy : y ≤ 60) :
    Calls Try.prog 46 #[.agg #[.int .i64 b, .int .i64 d, .int .i64 j, .int .i64 t], .int .i64 x, .int .i64 y] w
      fun e w' => e = .returned (.bool r) ∧ Below w.heap.size w w' := by
  subst hr; exact jump_any _ _ _ _ _ _ _ hx0 hx hy0 hy

set_option maxRecDepth 100000 in
set_option maxHeartbeats 6000000 in
theorem next_any (j : List Int) (hj : j.length = 61) (b d jm t lo hi : Int) (w : World) (h0 : 0 ≤ lo) (h1 : hi ≤ 60) (hlh : lo ≤ hi) (hjb : Small 100 j) :
    Calls Try.prog 37 #[.agg (ints j), .agg #[.int .i64 b, .int .i64 d, .int .i64 jm, .int .i64 t], .agg #[.int .i64 lo, .int .i64 hi]] w
      fun e w' => (e = .returned (.agg (ints (nextTo jm lo (hi + 1) j)))) ∧ Below w.heap.size w w' := by
  have HJ := Lib.hid hj
  have HS := Lib.hid hjb
  clear hjb hj
  go_enter Try.func37, Try.ntmps37
  go_wp2
  go_loopw [7] (fun now wr => ∃ k : Nat, lo ≤ k ∧ k ≤ hi + 1 ∧ now = .int .i64 k ∧ NW w wr j b d jm t lo hi (nextTo jm lo k j))
     (fun i _ => (hi + 1 - intOf i).toNat)
  case atStart =>
    obtain ⟨l, rfl⟩ := Int.eq_ofNat_of_zero_le h0
    refine ⟨l, by omega, by omega, rfl, ?_, ?_, ?_, ?_, ?_⟩
    · rw [heap_alloc_old (h := by simp; omega), heap_alloc_old (h := by simp; omega), heap_alloc_old (h := by simp)]; exact heap_alloc_new _ _
    · rw [heap_alloc_old (h := by simp), heap_alloc_old (h := by simp)]; exact heap_alloc2_new _ _ _
    · rw [heap_alloc_old (h := by simp)]
      have h := heap_alloc_new ((w.alloc (.cells (ints j) 93)).alloc (.cells #[Value.int IntKind.i64 b, Value.int IntKind.i64 d, Value.int IntKind.i64 jm, Value.int IntKind.i64 t] 28)) (.cells #[Value.int IntKind.i64 l, Value.int IntKind.i64 hi] 53)
      simpa using h
    · rw [nextTo_start]
      have h := heap_alloc_new (((w.alloc (.cells (ints j) 93)).alloc (.cells #[Value.int IntKind.i64 b, Value.int IntKind.i64 d, Value.int IntKind.i64 jm, Value.int IntKind.i64 t] 28)).alloc (.cells #[Value.int IntKind.i64 l, Value.int IntKind.i64 hi] 53)) (.cells (ints (List.replicate 61 0)) 93)
      simp only [World.size_alloc] at h
      exact h
    · exact ((((Below.refl _ _).alloc (Nat.le_refl _) _).alloc (by simp) _).alloc (by simp; omega) _).alloc (by simp; omega) _
  case round =>
    obtain ⟨k, hk0, hk1, rfl, hW⟩ := hrel
    have c2 := fun i => cell_of_row wr _ i _ _ _ hW.b2
    have hlo := c2 0
    have hhi := c2 1
    simp at hlo hhi
    have HW := Lib.hid hW
    clear c2 
    by_cases hlt : (k : Int) ≤ hi
    · have hk61 : k < 61 := by omega
      have hcz : wr.cell? ⟨w.heap.size + 1 + 1 + 1, k, none⟩ = some (.int .i64 0) := by
        rw [cell_of_row wr _ k _ _ _ hW.b3, ints_get _ _ (by rw [nextTo_len]; exact hk61), nextTo_at _ _ _ _ _ hk61, cellV, if_neg (by omega)]
      have hfz := frozen_of_row wr _ k _ _ hW.b3
      have hst : NW w (wr.setCell ⟨w.heap.size + 1 + 1 + 1, k, none⟩ (.int .i64 1)) j b d jm t lo hi ((nextTo jm lo k j).set k 1) := hW.store k 1
      have HST := Lib.hid hst
      have hT0 : (nextTo jm lo k j).set k 0 = nextTo jm lo k j := by
        refine List.ext_getElem (by simp) fun i h1 h2 => ?_
        rw [List.getElem_set]
        split
        · rename_i he
          subst he
          have := nextTo_at jm lo k j k hk61
          rw [cellV, if_neg (by omega)] at this
          simpa [List.getD, nextTo_len, hk61] using this.symm
        · rfl
      have HT0 := Lib.hid hT0
      clear hW hst hT0
      have hzz : zeroB j = true ∨ zeroB j = false := by cases zeroB j <;> simp
      rcases hzz with hz | hz
      case' inl =>
        have HE : Hid (decide (j = List.replicate 61 0) = true) := Lib.hid hz
        have HZ := Lib.hid hz
        clear hz
        go_wp2_with (first | refine wpList_load_row rfl 93 _ rfl _ rfl _ _ _ _ HW.out.b0 Try.underlying93 rfl (by rw [ints_size, HJ.out]; exact info93) ?_ | refine wpList_eql_ints rfl _ _ rfl _ _ (List.replicate 61 0) HE.out rfl rfl Try.underlying93 Try.underlying3 info3 (by kernel_rfl) HJ.out (by simp) ?_ | refine wpList_load_row rfl 93 _ rfl _ rfl _ _ _ _ HST.out.b0 Try.underlying93 rfl (by rw [ints_size, HJ.out]; exact info93) ?_)
        have HST' : Hid (NW w (wr.setCell ⟨w.heap.size + 1 + 1 + 1, k, none⟩ (.int .i64 1)) j b d jm t lo hi ((nextTo jm lo k j).set k (startV j))) := by rw [startV_zero HZ.out]; exact HST
        clear HST
        have HST := HST'
        clear HST'
        clear hcz hfz hlo hhi HW HT0
      case' inr =>
        have HE : Hid (decide (j = List.replicate 61 0) = false) := Lib.hid hz
        have HZ := Lib.hid hz
        clear hz
        go_wp2_with (first | refine wpList_load_row rfl 93 _ rfl _ rfl _ _ _ _ HW.out.b0 Try.underlying93 rfl (by rw [ints_size, HJ.out]; exact info93) ?_ | refine wpList_eql_ints rfl _ _ rfl _ _ (List.replicate 61 0) HE.out rfl rfl Try.underlying93 Try.underlying3 info3 (by kernel_rfl) HJ.out (by simp) ?_)
        have HST' : Hid (NW w wr j b d jm t lo hi ((nextTo jm lo k j).set k (startV j))) := by rw [startV_not HZ.out, HT0.out]; exact HW
        clear hcz hfz hlo hhi HW HT0 HST
        have HST := HST'
        clear HST'
      all_goals
        clear HE HZ
        go_loopw [24] (fun bi wr => ∃ b' : Nat, b' ≤ 61 ∧ bi = .int .i64 b' ∧ NW w wr j b d jm t lo hi ((nextTo jm lo k j).set k (foldV jm j k b')))
           (fun i _ => 61 - (intOf i).toNat)
        case atStart => exact ⟨0, by omega, rfl, by have := HST.out; exact this⟩
        case round =>
          obtain ⟨b', hb', rfl, hW⟩ := hrel
          by_cases hlt' : b' < 61
          · have c1 := fun i => cell_of_row _ _ i _ _ _ hW.b1
            have hcj0 := c1 0
            have hcj1 := c1 1
            have hcj2 := c1 2
            have hcj3 := c1 3
            simp at hcj0 hcj1 hcj2 hcj3
            have hcz := cell_of_row _ _ k _ _ _ hW.b3
            rw [ints_get _ _ (by simp [nextTo_len]; exact hk61)] at hcz
            have hF : ((nextTo jm lo k j).set k (foldV jm j k b')).getD k 0 = foldV jm j k b' := by simp [List.getD, nextTo_len, hk61]
            rw [hF] at hcz
            have hfz := frozen_of_row _ _ k _ _ hW.b3
            have HW := Lib.hid hW
            have hix := fun w => run_index_ints (P := Try.prog) Try.underlying93 Try.underlying3 info3 j HJ.out b' hlt' w
            have hn := HS.out b'
            have hf := foldV_small HS.out (by omega) jm k b'
            have HF : Hid (foldV jm j k (b' + 1) = max (foldV jm j k b') (stepV jm (j.getD b' 0) b' k)) := Lib.hid rfl
            clear hF c1 hW
            generalize foldV jm j k b' = F at *
            generalize j.getD b' 0 = n at *
            obtain ⟨hn0, hn1⟩ := hn
            obtain ⟨hf0, hf1⟩ := hf
            unfold stepV at HF
            by_cases hn2 : 0 < n
            · have hd : decide (0 < n) = true := by simpa using hn2
              have hjr : ∃ r, jumpB jm b' k = r := ⟨_, rfl⟩
              obtain ⟨r, hjr⟩ := hjr
              have HR := Lib.hid hjr
              clear hjr
              cases r
              case false =>
                have HG : Hid (foldV jm j k (b' + 1) = max F (n)) := by
                  rw [HF.out]; unfold Hid; congr 1; rw [hd, HR.out]; rfl
                by_cases hF : F ≤ n
                all_goals
                  go_wp2_with (go_at_call 46; refine (jump_r _ _ _ _ _ _ _ HR.out _ (by omega) (by omega) (by omega) (by omega)).mono ?_; rintro e w' ⟨rfl, hbw⟩; have HW2 := Lib.hid (HW.out.call hbw); have hcz2 := (hbw.cell (p := ⟨w.heap.size + 1 + 1 + 1, k, none⟩) (block_lt HW.out.b3)).trans hcz; have hfz2 := (hbw.frozen (p := ⟨w.heap.size + 1 + 1 + 1, k, none⟩) (block_lt HW.out.b3)).trans hfz)
                  all_goals
                    go_roundw
                    case rel => exact ⟨b' + 1, by omega, by go_num, HW2.out.fold (by rw [HG.out]; first | omega | (split <;> omega))⟩
                    case measure => simp [intOf]; omega
              case true =>
                have HG : Hid (foldV jm j k (b' + 1) = max F (n + 1)) := by
                  rw [HF.out]; unfold Hid; congr 1; rw [hd, HR.out]; rfl
                by_cases hF : F ≤ n
                all_goals
                  go_wp2_with (go_at_call 46; refine (jump_r _ _ _ _ _ _ _ HR.out _ (by omega) (by omega) (by omega) (by omega)).mono ?_; rintro e w' ⟨rfl, hbw⟩; have HW2 := Lib.hid (HW.out.call hbw); have hcz2 := (hbw.cell (p := ⟨w.heap.size + 1 + 1 + 1, k, none⟩) (block_lt HW.out.b3)).trans hcz; have hfz2 := (hbw.frozen (p := ⟨w.heap.size + 1 + 1 + 1, k, none⟩) (block_lt HW.out.b3)).trans hfz)
                  all_goals
                    go_roundw
                    case rel => exact ⟨b' + 1, by omega, by go_num, HW2.out.fold (by rw [HG.out]; first | omega | (split <;> omega))⟩
                    case measure => simp [intOf]; omega
            · have hd : decide (0 < n) = false := by simpa using hn2
              have HG : Hid (foldV jm j k (b' + 1) = max F n) := by
                rw [HF.out]; unfold Hid; congr 1; rw [hd]; rfl
              by_cases hF : F ≤ n
              all_goals
                go_wp2_with fail
                all_goals
                  go_roundw
                  case rel => exact ⟨b' + 1, by omega, by go_num, HW.out.fold (by rw [HG.out]; first | omega | (split <;> omega))⟩
                  case measure => simp [intOf]; omega
          · have : b' = 61 := by omega
            subst this
            have HW := Lib.hid hW
            clear hW
            go_wp2
            go_roundw
            case rel => exact ⟨k + 1, by omega, by omega, by go_num, by have := HW.out; rw [nextTo_set _ _ _ _ hk61 hk0] at this; exact this⟩
            case measure => simp [intOf]; omega
    · have hk : (k : Int) = hi + 1 := by omega
      have HK := Lib.hid hk
      clear hk hW
      go_wp2_with (first | refine wpList_load_row rfl 93 _ rfl _ rfl _ _ _ _ HW.out.b3 Try.underlying93 rfl (by rw [ints_size, nextTo_len]; exact info93) ?_ | refine wpList_store_row rfl 93 _ _ rfl _ _ rfl rfl _ _ HW.out.b3 (by rw [ints_size, nextTo_len]; exact info93) rfl (ints_oneCell _) ?_)
      refine bodyPost_ret (v := .agg (ints (nextTo jm lo k j))) (results_cell_row (fn := Try.f37) rfl _ _ _ _ _ _ _ rfl (setRow_heap _ _ _ _ _ _ HW.out.b3) Try.underlying93 rfl (by rw [ints_size, nextTo_len]; exact info93)) rfl ⟨by rw [HK.out], below_setRow HW.out.bel (by omega) _⟩
end Go.Proofs.Ytddapabmfecidaa
