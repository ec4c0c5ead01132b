/- ref.Ints; turn; the season of the examples. -/
import Derived.Test.YtddapabmfecidaaW18
import Derived.Great.BuildSlice
namespace Go.Proofs.Ytddapabmfecidaa
open Go.RowKit
theorem Below.drewM {B : Nat} {a w : World} (h : Below B a w) (n : Nat) : Below B a (w.drewN n) := ⟨h.os, h.tape, h.output, h.size, h.block⟩
set_option maxHeartbeats 1000000 in
theorem ints_any (l m : List Int) (v u : Value) (w : World) (hv : IntsIn .i64 w.heap.size w v l) (hu : IntsIn .i64 w.heap.size w u m) :
    Calls Try.prog 32 #[v, u] w fun e w' => e = .returned (.bool (decide (l = m))) ∧ Below w.heap.size w w' := by
  have HV := Lib.hid hv
  have HU := Lib.hid hu
  obtain ⟨a, c, rfl, hl, h1⟩ := hv
  obtain ⟨b, c2, rfl, hm, h2⟩ := hu
  clear h1 h2
  by_cases hlm : l.length = m.length
  · have HLM := Lib.hid hlm
    obtain ⟨n, hn⟩ : ∃ n, m.length = n := ⟨_, rfl⟩
    rw [hlm, hn] at hl
    rw [hlm, hn] at HV ⊢
    rw [hn] at HU
    have HN := Lib.hid hn
    clear hlm hn hm
    go_enter Try.func32, Try.ntmps32
    go_wp2_with fail
    go_loopw [5] (fun kv wr => ∃ k : Nat, kv = .int .i64 k ∧ k ≤ n ∧ Below w.heap.size w wr ∧ (decide (l = m) = decide (l.drop k = m.drop k))) (fun kv _ => n - (intOf kv).toNat)
    case atStart => exact ⟨0, rfl, by omega, Below.refl _ _, by simp⟩
    case round =>
      obtain ⟨k, rfl, hk, hb, hd⟩ := hrel
      have HB := Lib.hid hb
      have HD := Lib.hid hd
      clear hb hd
      by_cases hlt : k < n
      · have hlk : k < l.length := by rw [HLM.out, HN.out]; exact hlt
        have hmk : k < m.length := by rw [HN.out]; exact hlt
        obtain ⟨a', c', hv1, _, h1⟩ := HV.out.below HB.out
        simp only [Value.slice.injEq] at hv1
        obtain ⟨rfl, -, rfl⟩ := hv1
        obtain ⟨a2, c2', hv2, _, h2⟩ := HU.out.below HB.out
        simp only [Value.slice.injEq] at hv2
        obtain ⟨rfl, -, rfl⟩ := hv2
        obtain ⟨b1, o1, rfl, hb1, hc1⟩ := h1.resolve_left (by intro h; rw [h] at hlk; simp at hlk)
        obtain ⟨b2, o2, rfl, hb2, hc2⟩ := h2.resolve_left (by intro h; rw [h] at hmk; simp at hmk)
        have hk1 := hc1 k hlk
        have hk2 := hc2 k hmk
        have HDR : Hid (l.drop k = l.getD k 0 :: l.drop (k + 1)) := by unfold Hid; rw [List.drop_eq_getElem_cons hlk, List.getD_eq_getElem?_getD, List.getElem?_eq_getElem hlk]; rfl
        have HDM : Hid (m.drop k = m.getD k 0 :: m.drop (k + 1)) := by unfold Hid; rw [List.drop_eq_getElem_cons hmk, List.getD_eq_getElem?_getD, List.getElem?_eq_getElem hmk]; rfl
        clear hc1 hc2 h1 h2 hlk hmk
        generalize l.getD k 0 = x at *
        generalize m.getD k 0 = y at *
        by_cases hxy : x = y
        · subst hxy
          go_wp2_with fail
          go_quiet (fail)
          simp only [Exit.then]
          go_wp2_with fail
          go_roundw
          case rel => exact ⟨k + 1, by go_num, by omega, Below.drewM HB.out _, by rw [HD.out, HDR.out, HDM.out]; simp⟩
          case measure => simp [intOf]; omega
        · have HF : Hid (decide (l = m) = false) := by unfold Hid; rw [HD.out, HDR.out, HDM.out]; simp [hxy]
          have hne : (x != y) = true := by simpa using hxy
          go_wp2_with fail
          go_quiet (fail)
          simp only [Exit.then]
          go_wp2_with fail
          go_ret
          exact ⟨by rw [HF.out]; rfl, Below.drewM HB.out _⟩
      · have HF : Hid (decide (l = m) = true) := by unfold Hid; rw [HD.out, List.drop_eq_nil_of_le (by rw [HLM.out, HN.out]; omega), List.drop_eq_nil_of_le (by rw [HN.out]; omega)]; rfl
        go_wp2_with fail
        go_ret
        exact ⟨by rw [HF.out]; rfl, HB.out⟩
  · have HF : Hid (decide (l = m) = false) := by unfold Hid; exact decide_eq_false (fun h => hlm (by rw [h]))
    have hne : ((l.length : Int) != (m.length : Int)) = true := by simp; omega
    go_enter Try.func32, Try.ntmps32
    go_wp2_with fail
    go_ret
    exact ⟨by rw [HF.out]; rfl, Below.refl _ _⟩

def exS : Sea where
  bend := 30
  days := 2
  jump := 8
  times := 2
  move := 3
  stores := [{ name := ⟨#[97, 116, 116, 105, 99]⟩, rent := 1, warm := [(20, 32), (25, 35), (10, 28)] }, { name := ⟨#[99, 101, 108, 108, 97, 114]⟩, rent := 5, warm := [(12, 15), (12, 15), (12, 15)] }]
theorem info31 : (Try.prog.info? 31).map (·.size) = some 6 := by kernel_rfl
def SeasonPost (w : World) (e : Ending) (w' : World) : Prop :=
  ∃ v, e = .returned (.agg #[.int .i64 30, .int .i64 2, .int .i64 8, .int .i64 2, .int .i64 3, v]) ∧ StosIn w'.heap.size w' v exS.stores ∧ Below w.heap.size w w'
set_option maxRecDepth 100000 in
set_option maxHeartbeats 4000000 in
theorem season_any (w : World) : Calls Try.prog 15 #[] w (SeasonPost w) := by
  go_enter Try.func15, Try.ntmps15
  go_wp2_with fail
  refine (span_any 20 32 _).mono ?_
  rintro e w1 ⟨rfl, hb1⟩
  have R0 := Lib.hid (block_keep (heap_alloc_new w _) hb1)
  have B1 := Lib.hid (((Below.refl w.heap.size w).alloc (Nat.le_refl _) _).trans (hb1.mono (by simp)))
  clear hb1
  go_wp2_with fail
  refine (span_any 25 35 w1).mono ?_
  rintro e w2 ⟨rfl, hb2⟩
  have R0 := Lib.hid (block_keep R0.out hb2)
  have B1 := Lib.hid (B1.out.trans (hb2.mono B1.out.size))
  clear hb2
  go_wp2_with fail
  refine (span_any 10 28 w2).mono ?_
  rintro e w3 ⟨rfl, hb3⟩
  have R0 := Lib.hid (block_keep R0.out hb3)
  have B1 := Lib.hid (B1.out.trans (hb3.mono B1.out.size))
  clear hb3
  go_wp2_with fail
  have hlt03 : w.heap.size < w3.heap.size := block_lt R0.out
  have RA := Lib.hid (heap_alloc_new w3 (.cells #[.int .i64 20, .int .i64 32, .int .i64 25, .int .i64 35, .int .i64 10, .int .i64 28] 53))
  have R0 := Lib.hid (block_keep R0.out ((Below.refl w3.heap.size w3).alloc (Nat.le_refl _) (.cells #[.int .i64 20, .int .i64 32, .int .i64 25, .int .i64 35, .int .i64 10, .int .i64 28] 53)))
  have B1 := Lib.hid (B1.out.alloc B1.out.size (.cells #[.int .i64 20, .int .i64 32, .int .i64 25, .int .i64 35, .int .i64 10, .int .i64 28] 53))
  refine (span_any 12 15 (w3.alloc (.cells #[.int .i64 20, .int .i64 32, .int .i64 25, .int .i64 35, .int .i64 10, .int .i64 28] 53))).mono ?_
  rintro e w4 ⟨rfl, hb⟩
  have RA := Lib.hid (block_keep RA.out hb)
  have R0 := Lib.hid (block_keep R0.out hb)
  have B1 := Lib.hid (B1.out.trans (hb.mono B1.out.size))
  clear hb
  go_wp2_with fail
  refine (span_any 12 15 w4).mono ?_
  rintro e w5 ⟨rfl, hb⟩
  have RA := Lib.hid (block_keep RA.out hb)
  have R0 := Lib.hid (block_keep R0.out hb)
  have B1 := Lib.hid (B1.out.trans (hb.mono B1.out.size))
  clear hb
  go_wp2_with fail
  refine (span_any 12 15 w5).mono ?_
  rintro e w6 ⟨rfl, hb⟩
  have RA := Lib.hid (block_keep RA.out hb)
  have R0 := Lib.hid (block_keep R0.out hb)
  have B1 := Lib.hid (B1.out.trans (hb.mono B1.out.size))
  clear hb
  have hlt36' : w3.heap.size < w6.heap.size := block_lt RA.out
  have hb : Below w6.heap.size w6 ((w6.alloc (.cells #[.int .i64 12, .int .i64 15, .int .i64 12, .int .i64 15, .int .i64 12, .int .i64 15] 53)).alloc (.cells #[.string ⟨#[97, 116, 116, 105, 99]⟩, .int .i64 1, .slice (some ⟨w3.heap.size, 0, none⟩) 3 3, .string ⟨#[99, 101, 108, 108, 97, 114]⟩, .int .i64 5, .slice (some ⟨w6.heap.size, 0, none⟩) 3 3] 66)) := ((Below.refl _ _).alloc (Nat.le_refl _) _).alloc (by simp) _
  have R0 := Lib.hid (block_keep R0.out hb)
  have RA := Lib.hid (block_keep RA.out hb)
  have RB : Hid (((w6.alloc (.cells #[.int .i64 12, .int .i64 15, .int .i64 12, .int .i64 15, .int .i64 12, .int .i64 15] 53)).alloc (.cells #[.string ⟨#[97, 116, 116, 105, 99]⟩, .int .i64 1, .slice (some ⟨w3.heap.size, 0, none⟩) 3 3, .string ⟨#[99, 101, 108, 108, 97, 114]⟩, .int .i64 5, .slice (some ⟨w6.heap.size, 0, none⟩) 3 3] 66)).heap[w6.heap.size]? = some (.cells #[.int .i64 12, .int .i64 15, .int .i64 12, .int .i64 15, .int .i64 12, .int .i64 15] 53)) := (Below.heap_alloc _ _ _ (by simp)).trans (heap_alloc_new _ _)
  have RC : Hid (((w6.alloc (.cells #[.int .i64 12, .int .i64 15, .int .i64 12, .int .i64 15, .int .i64 12, .int .i64 15] 53)).alloc (.cells #[.string ⟨#[97, 116, 116, 105, 99]⟩, .int .i64 1, .slice (some ⟨w3.heap.size, 0, none⟩) 3 3, .string ⟨#[99, 101, 108, 108, 97, 114]⟩, .int .i64 5, .slice (some ⟨w6.heap.size, 0, none⟩) 3 3] 66)).heap[w6.heap.size + 1]? = some (.cells #[.string ⟨#[97, 116, 116, 105, 99]⟩, .int .i64 1, .slice (some ⟨w3.heap.size, 0, none⟩) 3 3, .string ⟨#[99, 101, 108, 108, 97, 114]⟩, .int .i64 5, .slice (some ⟨w6.heap.size, 0, none⟩) 3 3] 66)) := by
    have h := heap_alloc_new (w6.alloc (.cells #[.int .i64 12, .int .i64 15, .int .i64 12, .int .i64 15, .int .i64 12, .int .i64 15] 53)) (.cells #[.string ⟨#[97, 116, 116, 105, 99]⟩, .int .i64 1, .slice (some ⟨w3.heap.size, 0, none⟩) 3 3, .string ⟨#[99, 101, 108, 108, 97, 114]⟩, .int .i64 5, .slice (some ⟨w6.heap.size, 0, none⟩) 3 3] 66)
    rw [World.size_alloc] at h
    exact h
  have B1 := Lib.hid (B1.out.trans (hb.mono B1.out.size))
  clear hb
  go_wp2_with (refine wpList_store_row rfl 31 _ _ rfl _ #[.int .i64 30, .int .i64 2, .int .i64 8, .int .i64 2, .int .i64 3, .slice (some ⟨w6.heap.size + 1, 0, none⟩) 2 2] rfl rfl _ _ R0.out info31 rfl (by simp [Value.oneCell']) ?_)
  have hlt36 : w3.heap.size < w6.heap.size := hlt36'
  generalize (w6.alloc (.cells #[.int .i64 12, .int .i64 15, .int .i64 12, .int .i64 15, .int .i64 12, .int .i64 15] 53)).alloc (.cells #[.string ⟨#[97, 116, 116, 105, 99]⟩, .int .i64 1, .slice (some ⟨w3.heap.size, 0, none⟩) 3 3, .string ⟨#[99, 101, 108, 108, 97, 114]⟩, .int .i64 5, .slice (some ⟨w6.heap.size, 0, none⟩) 3 3] 66) = wz at *
  have R0f := setRow_heap wz w.heap.size _ #[.int .i64 30, .int .i64 2, .int .i64 8, .int .i64 2, .int .i64 3, .slice (some ⟨w6.heap.size + 1, 0, none⟩) 2 2] 31 _ R0.out
  have RAf := (setRow_other wz w.heap.size w3.heap.size #[.int .i64 30, .int .i64 2, .int .i64 8, .int .i64 2, .int .i64 3, .slice (some ⟨w6.heap.size + 1, 0, none⟩) 2 2] (by omega)).trans RA.out
  have RBf := (setRow_other wz w.heap.size w6.heap.size #[.int .i64 30, .int .i64 2, .int .i64 8, .int .i64 2, .int .i64 3, .slice (some ⟨w6.heap.size + 1, 0, none⟩) 2 2] (by omega)).trans RB.out
  have RCf := (setRow_other wz w.heap.size (w6.heap.size + 1) #[.int .i64 30, .int .i64 2, .int .i64 8, .int .i64 2, .int .i64 3, .slice (some ⟨w6.heap.size + 1, 0, none⟩) 2 2] (by omega)).trans RC.out
  have hbf := below_setRow B1.out (Nat.le_refl w.heap.size) #[.int .i64 30, .int .i64 2, .int .i64 8, .int .i64 2, .int .i64 3, .slice (some ⟨w6.heap.size + 1, 0, none⟩) 2 2]
  generalize wz.setRow w.heap.size #[.int .i64 30, .int .i64 2, .int .i64 8, .int .i64 2, .int .i64 3, .slice (some ⟨w6.heap.size + 1, 0, none⟩) 2 2] = wf at *
  have hl := run_loadVar_row (P := Try.prog) wf w.heap.size 31 31 #[.int .i64 30, .int .i64 2, .int .i64 8, .int .i64 2, .int .i64 3, .slice (some ⟨w6.heap.size + 1, 0, none⟩) 2 2] (0, 0) _ R0f Try.underlying31 rfl info31
  refine bodyPost_ret (v := .agg #[.int .i64 30, .int .i64 2, .int .i64 8, .int .i64 2, .int .i64 3, .slice (some ⟨w6.heap.size + 1, 0, none⟩) 2 2]) (by simp only [results, show Try.f15.results = #[.cell 0 31] from rfl]; simp [asAddr, hl, Act.put]) rfl ⟨_, rfl, ?_, hbf⟩
  have hA := block_lt RAf
  have hB := block_lt RBf
  have hC := block_lt RCf
  refine ⟨_, 2, rfl, by decide, by decide, .inr ⟨w6.heap.size + 1, 0, rfl, hC, fun i hi => ?_⟩⟩
  have hi2 : i < 2 := hi
  have hcc := fun k => cell_of_row wf (w6.heap.size + 1) k _ _ _ RCf
  rcases i with _ | _ | i
  · refine ⟨hcc 0, hcc 1, by decide, _, hcc 2, ⟨_, 3, rfl, by decide, by decide, .inr ⟨w3.heap.size, 0, rfl, hA, fun k hk => ?_⟩⟩⟩
    have hca := fun k => cell_of_row wf w3.heap.size k _ _ _ RAf
    have hk3 : k < 3 := hk
    rcases k with _ | _ | _ | k
    · exact ⟨hca 0, hca 1⟩
    · exact ⟨hca 2, hca 3⟩
    · exact ⟨hca 4, hca 5⟩
    · omega
  · refine ⟨hcc 3, hcc 4, by decide, _, hcc 5, ⟨_, 3, rfl, by decide, by decide, .inr ⟨w6.heap.size, 0, rfl, hB, fun k hk => ?_⟩⟩⟩
    have hca := fun k => cell_of_row wf w6.heap.size k _ _ _ RBf
    have hk3 : k < 3 := hk
    rcases k with _ | _ | _ | k
    · exact ⟨hca 0, hca 1⟩
    · exact ⟨hca 2, hca 3⟩
    · exact ⟨hca 4, hca 5⟩
    · omega
  · omega
end Go.Proofs.Ytddapabmfecidaa
