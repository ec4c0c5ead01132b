/- wick.Check at valid shops. -/
import Derived.Defers
import Derived.Recover
import Derived.Test.YtpkggjobdmchlaaGreatDoorU2
namespace Go.Proofs.YtpkggjobdmchlaaGreatDoor
open Go.RowKit
theorem catch_any (p : Addr) (w : World) :
    CallsD Tryz.prog 105 #[.pointer (some p)] .returning w fun e u' w' => e = .returned (.tuple #[]) ∧ u' = .returning ∧ w' = w := by
  refine callsD_of_wpS Tryz.func105 rfl fun c₀ cs hu => ?_
  apply wpS_seq
  apply wpS_region
  simp [wpOpsS, go_sem, recoverD, hu, Tryz.ntmps105, Exit.thenS]
  apply wpS_seq
  apply wpS_region
  simp [wpOpsS, go_sem, Exit.thenS]
  refine wpS_cond (t := false) (by simp [Act.eval, Array.replicate]) ?_
  simp only [Bool.false_eq_true, if_false]
  refine wpS_of_wp (wp_skip ?_)
  cases c₀
  simp_all [bodyPostS, results, Tryz.results105]
theorem infoSpan : (Tryz.prog.info? 25).map (·.size) = some 2 := by kernel_rfl
theorem infoErr : (Tryz.prog.info? 41).map (·.size) = some 1 := by kernel_rfl
theorem SpansIn.cells {w : World} {g n : Nat} {l : List (Int × Int)} {cs : Array Value} (h : w.heap[g]? = some (.cells cs 25)) (hn : l.length = n) (hl : l.length ≤ 1000) (hc : ∀ i, i < l.length → cs[i * 2]? = some (.int .i64 (l.getD i default).1) ∧ cs[i * 2 + 1]? = some (.int .i64 (l.getD i default).2)) :
    SpansIn w.heap.size w (.slice (some ⟨g, 0, none⟩) n n) l := by
  subst hn
  refine ⟨_, _, rfl, by omega, by omega, .inr ⟨g, 0, rfl, block_lt h, fun i hi => ?_⟩⟩
  have h2 := hc i hi
  constructor
  · rw [Nat.zero_add]
    exact (cell_of_row _ _ _ _ _ _ h).trans h2.1
  · rw [Nat.zero_add]
    exact (cell_of_row _ _ _ _ _ _ h).trans h2.2
set_option maxRecDepth 100000 in
set_option maxHeartbeats 16000000 in
theorem wcheck_ok {s : WShop} {c : Candle} (hs : WOk s c) (vw vx : Value) (w : World) (hv : WShopAt w.heap.size w vw vx s) :
    Calls Tryz.prog 79 #[.agg (wshopC vw vx s)] w fun e w' => e = .returned (.tuple #[.int .i64 0, .int .i64 0, .int .i64 0]) ∧ Below w.heap.size w w' := by
  have hmf : ∀ (fn : Fn) (first cap : Array Value) (w : World), (Instr.makeFunc fn first cap).run Tryz.prog w = .ok (.func fn first cap) w := fun _ _ _ _ => rfl
  obtain ⟨va, vc, rfl, hvl, -⟩ := sl_shape hv.1
  obtain ⟨xa, xc, rfl, hxl, -⟩ := sl_shape hv.2
  have HV := Lib.hid hv
  have HS := Lib.hid hs
  have hb0 := hs.nw1
  have hb1 := hs.nw12
  have hb2 := hs.nx1
  have hb3 := hs.nx6
  obtain ⟨hf0, hf1, hf2⟩ := hs.flame
  obtain ⟨hp0, hp1, hp2⟩ := hs.pool
  clear hv hs
  have C0 : Hid (Bs w [(w.heap.size, .cells #[.slice va s.wicks.length vc, .slice xa s.waxes.length xc, .int .i64 s.flame.1, .int .i64 s.flame.2, .int .i64 s.pool.1, .int .i64 s.pool.2] 27), (w.heap.size + 1, .cells #[.int .i64 0] 41)] _) := Lib.hid (((Bs.nil w).push _ rfl (.cells #[.slice va s.wicks.length vc, .slice xa s.waxes.length xc, .int .i64 s.flame.1, .int .i64 s.flame.2, .int .i64 s.pool.1, .int .i64 s.pool.2] 27)).push (w.heap.size + 1) (by simp) (.cells #[.int .i64 0] 41))
  go_enter_defers Tryz.func79, Tryz.ntmps79
  have hc0_0 := C0.out.cell 0 rfl 0
  have hc0_1 := C0.out.cell 0 rfl 1
  have hc0_2 := C0.out.cell 0 rfl 2
  have hc0_3 := C0.out.cell 0 rfl 3
  have hc0_4 := C0.out.cell 0 rfl 4
  have hc0_5 := C0.out.cell 0 rfl 5
  go_wp2_with fail
  rw [show w.heap.size + 1 + 1 = ((w.alloc (.cells #[.slice va s.wicks.length vc, .slice xa s.waxes.length xc, .int .i64 s.flame.1, .int .i64 s.flame.2, .int .i64 s.pool.1, .int .i64 s.pool.2] 27)).alloc (.cells #[.int .i64 0] 41)).heap.size from by simp]
  generalize ((w.alloc (.cells #[.slice va s.wicks.length vc, .slice xa s.waxes.length xc, .int .i64 s.flame.1, .int .i64 s.flame.2, .int .i64 s.pool.1, .int .i64 s.pool.2] 27)).alloc (.cells #[.int .i64 0] 41)) = W0 at *
  refine (kout_row false 1 12 [(s.wicks.length : Int)] 1 rfl (by simp) (by rw [outB_one, outOne_ff]; omega) _ _ rfl _ (heap_alloc_new _ _)).mono ?_
  rintro e w1 ⟨rfl, hb⟩
  have C1 := Lib.hid ((C0.out.alloc _).call hb)
  clear hc0_0 hc0_1 hc0_2 hc0_3 hc0_4 hc0_5
  clear hb C0
  have hc0_0 := C1.out.cell 0 rfl 0
  have hc0_1 := C1.out.cell 0 rfl 1
  have hc0_2 := C1.out.cell 0 rfl 2
  have hc0_3 := C1.out.cell 0 rfl 3
  have hc0_4 := C1.out.cell 0 rfl 4
  have hc0_5 := C1.out.cell 0 rfl 5
  go_wp2_with fail
  refine (kout_row false 1 6 [(s.waxes.length : Int)] 1 rfl (by simp) (by rw [outB_one, outOne_ff]; omega) _ _ rfl _ (heap_alloc_new _ _)).mono ?_
  rintro e w1 ⟨rfl, hb⟩
  have C2 := Lib.hid ((C1.out.alloc _).call hb)
  clear hc0_0 hc0_1 hc0_2 hc0_3 hc0_4 hc0_5
  clear hb C1
  have hc0_0 := C2.out.cell 0 rfl 0
  have hc0_1 := C2.out.cell 0 rfl 1
  have hc0_2 := C2.out.cell 0 rfl 2
  have hc0_3 := C2.out.cell 0 rfl 3
  have hc0_4 := C2.out.cell 0 rfl 4
  have hc0_5 := C2.out.cell 0 rfl 5
  go_wp2_with fail
  refine (must_ok _ _).mono ?_
  rintro e w' ⟨rfl, rfl⟩
  go_wp2_with fail
  refine (kout_row false 0 2000 [s.flame.1, s.flame.2, s.pool.1, s.pool.2] 4 rfl (by simp) (outB_in (by simp; omega)) _ _ rfl _ (heap_alloc_new _ _)).mono ?_
  rintro e w1 ⟨rfl, hb⟩
  have C3 := Lib.hid ((C2.out.alloc _).call hb)
  clear hc0_0 hc0_1 hc0_2 hc0_3 hc0_4 hc0_5
  clear hb C2
  have hc0_0 := C3.out.cell 0 rfl 0
  have hc0_1 := C3.out.cell 0 rfl 1
  have hc0_2 := C3.out.cell 0 rfl 2
  have hc0_3 := C3.out.cell 0 rfl 3
  have hc0_4 := C3.out.cell 0 rfl 4
  have hc0_5 := C3.out.cell 0 rfl 5
  go_wp2_with fail
  refine (must_ok _ _).mono ?_
  rintro e w' ⟨rfl, rfl⟩
  go_wp2_with fail
  have HXX := Lib.hid (SpansIn.cells (cs := #[.int .i64 s.flame.1, .int .i64 s.flame.2, .int .i64 s.pool.1, .int .i64 s.pool.2]) (l := [s.flame, s.pool]) (n := 2) (heap_alloc_new w1 (.cells #[.int .i64 s.flame.1, .int .i64 s.flame.2, .int .i64 s.pool.1, .int .i64 s.pool.2] 25)) rfl (by simp) (by intro i hi; have h3 : i = 0 ∨ i = 1 := (by simp at hi; omega); rcases h3 with rfl | rfl <;> exact ⟨rfl, rfl⟩))
  refine (turned_any false _ _ _ HXX.out (by simp; omega)).mono ?_
  rintro e w1 ⟨rfl, hb⟩
  clear HXX
  have C4 := Lib.hid ((C3.out.alloc _).call hb)
  clear hc0_0 hc0_1 hc0_2 hc0_3 hc0_4 hc0_5
  clear hb C3
  have hc0_0 := C4.out.cell 0 rfl 0
  have hc0_1 := C4.out.cell 0 rfl 1
  have hc0_2 := C4.out.cell 0 rfl 2
  have hc0_3 := C4.out.cell 0 rfl 3
  have hc0_4 := C4.out.cell 0 rfl 4
  have hc0_5 := C4.out.cell 0 rfl 5
  go_wp2_with fail
  refine (must_ok _ _).mono ?_
  rintro e w' ⟨rfl, rfl⟩
  clear hc0_0 hc0_1 hc0_2 hc0_3 hc0_4 hc0_5
  have hc0_0 := C4.out.cell 0 rfl 0
  go_wp2_with fail
  go_loopw [52] (fun iv wr => ∃ i : Nat, iv = .int .i64 i ∧ i ≤ s.wicks.length ∧ Bs w [(w.heap.size, .cells #[.slice va s.wicks.length vc, .slice xa s.waxes.length xc, .int .i64 s.flame.1, .int .i64 s.flame.2, .int .i64 s.pool.1, .int .i64 s.pool.2] 27), (w.heap.size + 1, .cells #[.int .i64 0] 41)] wr) (fun iv _ => s.wicks.length - (intOf iv).toNat)
  case atStart => exact ⟨0, rfl, by omega, C4.out⟩
  case round =>
    clear C4 hc0_0
    obtain ⟨i, rfl, hi, hbs⟩ := hrel
    have CI := Lib.hid hbs
    clear hbs
    by_cases hil : i < s.wicks.length
    · have hii : (i : Int) < (s.wicks.length : Int) := by omega
      obtain ⟨ht0, ht1⟩ := HS.out.threads i hil
      obtain ⟨hq0, hq1, hq2⟩ := HS.out.pull i hil
      have HNM := Lib.hid (HS.out.wname i hil)
      have HTW := Lib.hid (HS.out.wtwice i hil)
      have HSL := Lib.hid (HV.out.1.take (i + 1) (by omega))
      obtain ⟨b, o, he, hbl, hx0, hx1, hx2, hx3, hsz⟩ := HV.out.1.at' hil
      cases he
      have HX0 : Hid (w.cell? ⟨b, o + i * 4, none⟩ = some (.string (s.wicks.getD i default).name)) := hx0
      have HX1 : Hid (w.cell? ⟨b, o + i * 4 + 1, none⟩ = some (.int .i64 (s.wicks.getD i default).threads)) := hx1
      have HX2 : Hid (w.cell? ⟨b, o + i * 4 + 2, none⟩ = some (.int .i64 (s.wicks.getD i default).pull.1)) := hx2
      have HX3 : Hid (w.cell? ⟨b, o + i * 4 + 3, none⟩ = some (.int .i64 (s.wicks.getD i default).pull.2)) := hx3
      have HBL := Lib.hid hbl
      have HLN : Hid ((s.wicks.take (i + 1)).length = i + 1) := by unfold Hid; rw [List.length_take]; omega
      have HGD : Hid ((s.wicks.take (i + 1)).getD i default = s.wicks.getD i default) := by unfold Hid; simp [List.getD]
      have HTT : Hid ((s.wicks.take (i + 1)).take i = s.wicks.take i) := by unfold Hid; rw [List.take_take, Nat.min_eq_left (by omega)]
      have HNA := fun a w h => Lib.hid (namedWick_ok (s.wicks.take (i + 1)) i HLN.out (by rw [HLN.out]; omega) (by rw [HGD.out]; exact HNM.out) (by rw [HTT.out, HGD.out]; exact HTW.out) a vc w h)
      clear HGD HTT HNM HTW hx0 hx1 hx2 hx3 hbl hsz
      generalize s.wicks.getD i default = x at *
      have hy0 := (CI.out.bel.cell (p := ⟨b, o + i * 4, none⟩) HBL.out).trans HX0.out
      have hy1 := (CI.out.bel.cell (p := ⟨b, o + i * 4 + 1, none⟩) HBL.out).trans HX1.out
      have hy2 := (CI.out.bel.cell (p := ⟨b, o + i * 4 + 2, none⟩) HBL.out).trans HX2.out
      have hy3 := (CI.out.bel.cell (p := ⟨b, o + i * 4 + 3, none⟩) HBL.out).trans HX3.out
      have hc0_0 := CI.out.cell 0 rfl 0
      have CP := Lib.hid (CI.out.push _ rfl (.cells #[.string ByteArray.empty, .int .i64 0, .int .i64 0, .int .i64 0] 136))
      go_wp2_with (refine wpList_store_bs rfl 136 _ _ rfl CP.out 2 _ _ _ _ rfl rfl rfl infoWick rfl (by simp [Value.oneCell']) ?_; intro w5 hC5; have C5 : Hid (Bs w [(w.heap.size, .cells #[.slice (some ⟨b, o, none⟩) s.wicks.length vc, .slice xa s.waxes.length xc, .int .i64 s.flame.1, .int .i64 s.flame.2, .int .i64 s.pool.1, .int .i64 s.pool.2] 27), (w.heap.size + 1, .cells #[.int .i64 0] 41), (wr.heap.size, .cells #[.string x.name, .int .i64 x.threads, .int .i64 x.pull.1, .int .i64 x.pull.2] 136)] w5) := hC5; clear hC5 CP CI hy0 HX0 hy1 HX1 hy2 HX2 hy3 HX3 hc0_0; have hc0_0 := C5.out.cell 0 rfl 0)
      refine (HNA _ _ ((HSL.out.below C5.out.bel).mono C5.out.bel.size)).out.mono ?_
      rintro e w1 ⟨rfl, hb⟩
      have C6 := Lib.hid (C5.out.call hb)
      clear hc0_0
      clear hb C5
      have hc0_0 := C6.out.cell 0 rfl 0
      clear hc0_0
      clear HNA HSL HLN
      go_wp2_with (refine wpList_cell_bs rfl 41 _ _ rfl C6.out 1 _ 0 _ _ rfl rfl (.int .i64 0) rfl (by simp) rfl infoErr ?_; intro w7 hC7; have C20 : Hid (Bs w [(w.heap.size, .cells #[.slice (some ⟨b, o, none⟩) s.wicks.length vc, .slice xa s.waxes.length xc, .int .i64 s.flame.1, .int .i64 s.flame.2, .int .i64 s.pool.1, .int .i64 s.pool.2] 27), (w.heap.size + 1, .cells #[.int .i64 0] 41), (wr.heap.size, .cells #[.string x.name, .int .i64 x.threads, .int .i64 x.pull.1, .int .i64 x.pull.2] 136)] w7) := hC7; clear hC7 C6; have hc1_0 := C20.out.cell 1 rfl 0)
      refine (must_ok _ _).mono ?_
      rintro e w' ⟨rfl, rfl⟩
      clear hc1_0
      have hc2_1 := C20.out.cell 2 rfl 1
      have hc2_2 := C20.out.cell 2 rfl 2
      have hc2_3 := C20.out.cell 2 rfl 3
      go_wp2_with fail
      refine (kout_row false 1 100 [x.threads] 1 rfl (by simp) (by rw [outB_one, outOne_ff]; omega) _ _ rfl _ (heap_alloc_new _ _)).mono ?_
      rintro e w1 ⟨rfl, hb⟩
      have C21 := Lib.hid ((C20.out.alloc _).call hb)
      clear hc2_1 hc2_2 hc2_3
      clear hb C20
      have hc2_1 := C21.out.cell 2 rfl 1
      have hc2_2 := C21.out.cell 2 rfl 2
      have hc2_3 := C21.out.cell 2 rfl 3
      go_wp2_with fail
      refine (kout_row false 1 1000 [x.pull.1, x.pull.2] 2 rfl (by simp) (outB_in (by simp; omega)) _ _ rfl _ (heap_alloc_new _ _)).mono ?_
      rintro e w1 ⟨rfl, hb⟩
      have C22 := Lib.hid ((C21.out.alloc _).call hb)
      clear hc2_1 hc2_2 hc2_3
      clear hb C21
      have hc2_1 := C22.out.cell 2 rfl 1
      have hc2_2 := C22.out.cell 2 rfl 2
      have hc2_3 := C22.out.cell 2 rfl 3
      go_wp2_with fail
      refine (must_ok _ _).mono ?_
      rintro e w' ⟨rfl, rfl⟩
      go_wp2_with fail
      have HXX := Lib.hid (SpansIn.cells (cs := #[.int .i64 x.pull.1, .int .i64 x.pull.2]) (l := [x.pull]) (n := 1) (heap_alloc_new w1 (.cells #[.int .i64 x.pull.1, .int .i64 x.pull.2] 25)) rfl (by simp) (by intro i hi; have h3 : i = 0 := (by simp at hi; omega); subst h3; exact ⟨rfl, rfl⟩))
      refine (turned_any false _ _ _ HXX.out (by simp; omega)).mono ?_
      rintro e w1 ⟨rfl, hb⟩
      clear HXX
      have C23 := Lib.hid ((C22.out.alloc _).call hb)
      clear hc2_1 hc2_2 hc2_3
      clear hb C22
      have hc2_1 := C23.out.cell 2 rfl 1
      have hc2_2 := C23.out.cell 2 rfl 2
      have hc2_3 := C23.out.cell 2 rfl 3
      go_wp2_with fail
      refine (must_ok _ _).mono ?_
      rintro e w' ⟨rfl, rfl⟩
      clear hc2_1 hc2_2 hc2_3
      have CE := Lib.hid (C23.out.sub [(w.heap.size, .cells #[.slice (some ⟨b, o, none⟩) s.wicks.length vc, .slice xa s.waxes.length xc, .int .i64 s.flame.1, .int .i64 s.flame.2, .int .i64 s.pool.1, .int .i64 s.pool.2] 27), (w.heap.size + 1, .cells #[.int .i64 0] 41)] (by simp))
      clear C23
      go_wp2_with fail
      refine ⟨⟨i + 1, by push_cast; rfl, by omega, CE.out⟩, ?_⟩
      simp [intOf]; omega
    · obtain rfl : i = s.wicks.length := by omega
      have hc0_1 := CI.out.cell 0 rfl 1
      go_wp2_with fail
      go_loopw [95] (fun iv wr => ∃ i : Nat, iv = .int .i64 i ∧ i ≤ s.waxes.length ∧ Bs w [(w.heap.size, .cells #[.slice va s.wicks.length vc, .slice xa s.waxes.length xc, .int .i64 s.flame.1, .int .i64 s.flame.2, .int .i64 s.pool.1, .int .i64 s.pool.2] 27), (w.heap.size + 1, .cells #[.int .i64 0] 41)] wr) (fun iv _ => s.waxes.length - (intOf iv).toNat)
      case atStart => exact ⟨0, rfl, by omega, CI.out⟩
      case round =>
        clear CI hc0_1
        obtain ⟨i, rfl, hi, hbs⟩ := hrel
        have CI := Lib.hid hbs
        clear hbs
        by_cases hil : i < s.waxes.length
        · have hii : (i : Int) < (s.waxes.length : Int) := by omega
          obtain ⟨ht0, ht1⟩ := HS.out.chill i hil
          obtain ⟨hq0, hq1, hq2⟩ := HS.out.flow i hil
          obtain ⟨hr0, hr1, hr2⟩ := HS.out.rise i hil
          obtain ⟨hu0, hu1, hu2⟩ := HS.out.spread i hil
          have HNM := Lib.hid (HS.out.xname i hil)
          have HTW := Lib.hid (HS.out.xtwice i hil)
          have HSL := Lib.hid (HV.out.2.take (i + 1) (by omega))
          obtain ⟨b, o, he, hbl, hx0, hx1, hx2, hx3, hx4, hx5, hx6, hx7, hsz⟩ := HV.out.2.at' hil
          cases he
          have HX0 : Hid (w.cell? ⟨b, o + i * 8, none⟩ = some (.string (s.waxes.getD i default).name)) := hx0
          have HX1 : Hid (w.cell? ⟨b, o + i * 8 + 1, none⟩ = some (.int .i64 (s.waxes.getD i default).flow.1)) := hx1
          have HX2 : Hid (w.cell? ⟨b, o + i * 8 + 2, none⟩ = some (.int .i64 (s.waxes.getD i default).flow.2)) := hx2
          have HX3 : Hid (w.cell? ⟨b, o + i * 8 + 3, none⟩ = some (.int .i64 (s.waxes.getD i default).rise.1)) := hx3
          have HX4 : Hid (w.cell? ⟨b, o + i * 8 + 4, none⟩ = some (.int .i64 (s.waxes.getD i default).rise.2)) := hx4
          have HX5 : Hid (w.cell? ⟨b, o + i * 8 + 5, none⟩ = some (.int .i64 (s.waxes.getD i default).spread.1)) := hx5
          have HX6 : Hid (w.cell? ⟨b, o + i * 8 + 6, none⟩ = some (.int .i64 (s.waxes.getD i default).spread.2)) := hx6
          have HX7 : Hid (w.cell? ⟨b, o + i * 8 + 7, none⟩ = some (.int .i64 (s.waxes.getD i default).chill)) := hx7
          have HBL := Lib.hid hbl
          have HLN : Hid ((s.waxes.take (i + 1)).length = i + 1) := by unfold Hid; rw [List.length_take]; omega
          have HGD : Hid ((s.waxes.take (i + 1)).getD i default = s.waxes.getD i default) := by unfold Hid; simp [List.getD]
          have HTT : Hid ((s.waxes.take (i + 1)).take i = s.waxes.take i) := by unfold Hid; rw [List.take_take, Nat.min_eq_left (by omega)]
          have HNA := fun a w h => Lib.hid (namedWax_ok (s.waxes.take (i + 1)) i HLN.out (by rw [HLN.out]; omega) (by rw [HGD.out]; exact HNM.out) (by rw [HTT.out, HGD.out]; exact HTW.out) a xc w h)
          clear HGD HTT HNM HTW hx0 hx1 hx2 hx3 hx4 hx5 hx6 hx7 hbl hsz
          generalize s.waxes.getD i default = x at *
          have hy0 := (CI.out.bel.cell (p := ⟨b, o + i * 8, none⟩) HBL.out).trans HX0.out
          have hy1 := (CI.out.bel.cell (p := ⟨b, o + i * 8 + 1, none⟩) HBL.out).trans HX1.out
          have hy2 := (CI.out.bel.cell (p := ⟨b, o + i * 8 + 2, none⟩) HBL.out).trans HX2.out
          have hy3 := (CI.out.bel.cell (p := ⟨b, o + i * 8 + 3, none⟩) HBL.out).trans HX3.out
          have hy4 := (CI.out.bel.cell (p := ⟨b, o + i * 8 + 4, none⟩) HBL.out).trans HX4.out
          have hy5 := (CI.out.bel.cell (p := ⟨b, o + i * 8 + 5, none⟩) HBL.out).trans HX5.out
          have hy6 := (CI.out.bel.cell (p := ⟨b, o + i * 8 + 6, none⟩) HBL.out).trans HX6.out
          have hy7 := (CI.out.bel.cell (p := ⟨b, o + i * 8 + 7, none⟩) HBL.out).trans HX7.out
          have hc0_1 := CI.out.cell 0 rfl 1
          have CP := Lib.hid (CI.out.push _ rfl (.cells #[.string ByteArray.empty, .int .i64 0, .int .i64 0, .int .i64 0, .int .i64 0, .int .i64 0, .int .i64 0, .int .i64 0] 102))
          go_wp2_with (refine wpList_store_bs rfl 102 _ _ rfl CP.out 2 _ _ _ _ rfl rfl rfl infoWax rfl (by simp [Value.oneCell']) ?_; intro w5 hC5; have C5 : Hid (Bs w [(w.heap.size, .cells #[.slice va s.wicks.length vc, .slice (some ⟨b, o, none⟩) s.waxes.length xc, .int .i64 s.flame.1, .int .i64 s.flame.2, .int .i64 s.pool.1, .int .i64 s.pool.2] 27), (w.heap.size + 1, .cells #[.int .i64 0] 41), (wr.heap.size, .cells #[.string x.name, .int .i64 x.flow.1, .int .i64 x.flow.2, .int .i64 x.rise.1, .int .i64 x.rise.2, .int .i64 x.spread.1, .int .i64 x.spread.2, .int .i64 x.chill] 102)] w5) := hC5; clear hC5 CP CI hy0 HX0 hy1 HX1 hy2 HX2 hy3 HX3 hy4 HX4 hy5 HX5 hy6 HX6 hy7 HX7 hc0_1; have hc0_1 := C5.out.cell 0 rfl 1)
          refine (HNA _ _ ((HSL.out.below C5.out.bel).mono C5.out.bel.size)).out.mono ?_
          rintro e w1 ⟨rfl, hb⟩
          have C6 := Lib.hid (C5.out.call hb)
          clear hc0_1
          clear hb C5
          have hc0_1 := C6.out.cell 0 rfl 1
          clear hc0_1
          clear HNA HSL HLN
          go_wp2_with (refine wpList_cell_bs rfl 41 _ _ rfl C6.out 1 _ 0 _ _ rfl rfl (.int .i64 0) rfl (by simp) rfl infoErr ?_; intro w7 hC7; have C20 : Hid (Bs w [(w.heap.size, .cells #[.slice va s.wicks.length vc, .slice (some ⟨b, o, none⟩) s.waxes.length xc, .int .i64 s.flame.1, .int .i64 s.flame.2, .int .i64 s.pool.1, .int .i64 s.pool.2] 27), (w.heap.size + 1, .cells #[.int .i64 0] 41), (wr.heap.size, .cells #[.string x.name, .int .i64 x.flow.1, .int .i64 x.flow.2, .int .i64 x.rise.1, .int .i64 x.rise.2, .int .i64 x.spread.1, .int .i64 x.spread.2, .int .i64 x.chill] 102)] w7) := hC7; clear hC7 C6; have hc1_0 := C20.out.cell 1 rfl 0)
          refine (must_ok _ _).mono ?_
          rintro e w' ⟨rfl, rfl⟩
          clear hc1_0
          have hc2_1 := C20.out.cell 2 rfl 1
          have hc2_2 := C20.out.cell 2 rfl 2
          have hc2_3 := C20.out.cell 2 rfl 3
          have hc2_4 := C20.out.cell 2 rfl 4
          have hc2_5 := C20.out.cell 2 rfl 5
          have hc2_6 := C20.out.cell 2 rfl 6
          have hc2_7 := C20.out.cell 2 rfl 7
          go_wp2_with fail
          refine (kout_row false 0 50 [x.chill] 1 rfl (by simp) (by rw [outB_one, outOne_ff]; omega) _ _ rfl _ (heap_alloc_new _ _)).mono ?_
          rintro e w1 ⟨rfl, hb⟩
          have C21 := Lib.hid ((C20.out.alloc _).call hb)
          clear hc2_1 hc2_2 hc2_3 hc2_4 hc2_5 hc2_6 hc2_7
          clear hb C20
          have hc2_1 := C21.out.cell 2 rfl 1
          have hc2_2 := C21.out.cell 2 rfl 2
          have hc2_3 := C21.out.cell 2 rfl 3
          have hc2_4 := C21.out.cell 2 rfl 4
          have hc2_5 := C21.out.cell 2 rfl 5
          have hc2_6 := C21.out.cell 2 rfl 6
          have hc2_7 := C21.out.cell 2 rfl 7
          go_wp2_with fail
          refine (kout_row false 1 300 [x.flow.1, x.flow.2] 2 rfl (by simp) (outB_in (by simp; omega)) _ _ rfl _ (heap_alloc_new _ _)).mono ?_
          rintro e w1 ⟨rfl, hb⟩
          have C22 := Lib.hid ((C21.out.alloc _).call hb)
          clear hc2_1 hc2_2 hc2_3 hc2_4 hc2_5 hc2_6 hc2_7
          clear hb C21
          have hc2_1 := C22.out.cell 2 rfl 1
          have hc2_2 := C22.out.cell 2 rfl 2
          have hc2_3 := C22.out.cell 2 rfl 3
          have hc2_4 := C22.out.cell 2 rfl 4
          have hc2_5 := C22.out.cell 2 rfl 5
          have hc2_6 := C22.out.cell 2 rfl 6
          have hc2_7 := C22.out.cell 2 rfl 7
          go_wp2_with fail
          refine (must_ok _ _).mono ?_
          rintro e w' ⟨rfl, rfl⟩
          go_wp2_with fail
          refine (kout_row false 1 1000 [x.rise.1, x.rise.2] 2 rfl (by simp) (outB_in (by simp; omega)) _ _ rfl _ (heap_alloc_new _ _)).mono ?_
          rintro e w1 ⟨rfl, hb⟩
          have C23 := Lib.hid ((C22.out.alloc _).call hb)
          clear hc2_1 hc2_2 hc2_3 hc2_4 hc2_5 hc2_6 hc2_7
          clear hb C22
          have hc2_1 := C23.out.cell 2 rfl 1
          have hc2_2 := C23.out.cell 2 rfl 2
          have hc2_3 := C23.out.cell 2 rfl 3
          have hc2_4 := C23.out.cell 2 rfl 4
          have hc2_5 := C23.out.cell 2 rfl 5
          have hc2_6 := C23.out.cell 2 rfl 6
          have hc2_7 := C23.out.cell 2 rfl 7
          go_wp2_with fail
          refine (kout_row false 1 2000 [x.spread.1, x.spread.2] 2 rfl (by simp) (outB_in (by simp; omega)) _ _ rfl _ (heap_alloc_new _ _)).mono ?_
          rintro e w1 ⟨rfl, hb⟩
          have C24 := Lib.hid ((C23.out.alloc _).call hb)
          clear hc2_1 hc2_2 hc2_3 hc2_4 hc2_5 hc2_6 hc2_7
          clear hb C23
          have hc2_1 := C24.out.cell 2 rfl 1
          have hc2_2 := C24.out.cell 2 rfl 2
          have hc2_3 := C24.out.cell 2 rfl 3
          have hc2_4 := C24.out.cell 2 rfl 4
          have hc2_5 := C24.out.cell 2 rfl 5
          have hc2_6 := C24.out.cell 2 rfl 6
          have hc2_7 := C24.out.cell 2 rfl 7
          go_wp2_with fail
          refine (must_ok _ _).mono ?_
          rintro e w' ⟨rfl, rfl⟩
          go_wp2_with fail
          have HXX := Lib.hid (SpansIn.cells (cs := #[.int .i64 x.flow.1, .int .i64 x.flow.2, .int .i64 x.rise.1, .int .i64 x.rise.2, .int .i64 x.spread.1, .int .i64 x.spread.2]) (l := [x.flow, x.rise, x.spread]) (n := 3) (heap_alloc_new w1 (.cells #[.int .i64 x.flow.1, .int .i64 x.flow.2, .int .i64 x.rise.1, .int .i64 x.rise.2, .int .i64 x.spread.1, .int .i64 x.spread.2] 25)) rfl (by simp) (by intro i hi; have h3 : i = 0 ∨ i = 1 ∨ i = 2 := (by simp at hi; omega); rcases h3 with rfl | rfl | rfl <;> exact ⟨rfl, rfl⟩))
          refine (turned_any false _ _ _ HXX.out (by simp; omega)).mono ?_
          rintro e w1 ⟨rfl, hb⟩
          clear HXX
          have C25 := Lib.hid ((C24.out.alloc _).call hb)
          clear hc2_1 hc2_2 hc2_3 hc2_4 hc2_5 hc2_6 hc2_7
          clear hb C24
          have hc2_1 := C25.out.cell 2 rfl 1
          have hc2_2 := C25.out.cell 2 rfl 2
          have hc2_3 := C25.out.cell 2 rfl 3
          have hc2_4 := C25.out.cell 2 rfl 4
          have hc2_5 := C25.out.cell 2 rfl 5
          have hc2_6 := C25.out.cell 2 rfl 6
          have hc2_7 := C25.out.cell 2 rfl 7
          go_wp2_with fail
          refine (must_ok _ _).mono ?_
          rintro e w' ⟨rfl, rfl⟩
          clear hc2_1 hc2_2 hc2_3 hc2_4 hc2_5 hc2_6 hc2_7
          have CE := Lib.hid (C25.out.sub [(w.heap.size, .cells #[.slice va s.wicks.length vc, .slice (some ⟨b, o, none⟩) s.waxes.length xc, .int .i64 s.flame.1, .int .i64 s.flame.2, .int .i64 s.pool.1, .int .i64 s.pool.2] 27), (w.heap.size + 1, .cells #[.int .i64 0] 41)] (by simp))
          clear C25
          go_wp2_with fail
          refine ⟨⟨i + 1, by push_cast; rfl, by omega, CE.out⟩, ?_⟩
          simp [intOf]; omega
        · obtain rfl : i = s.waxes.length := by omega
          go_wp2_with (refine wpList_cell_bs rfl 41 _ _ rfl CI.out 1 _ 0 _ _ rfl rfl (.int .i64 0) rfl (by simp) rfl infoErr ?_; intro w7 hC7; have CZ : Hid (Bs w [(w.heap.size, .cells #[.slice va s.wicks.length vc, .slice xa s.waxes.length xc, .int .i64 s.flame.1, .int .i64 s.flame.2, .int .i64 s.pool.1, .int .i64 s.pool.2] 27), (w.heap.size + 1, .cells #[.int .i64 0] 41)] w7) := hC7; clear hC7 CI)
          have hz := CZ.out.cell 1 rfl 0
          refine leaves_cons (f := 105) (args := #[.pointer (some ⟨w.heap.size + 1, 0, none⟩)]) (by simp) (by simp [go_sem]) ?_
          refine (catch_any _ _).mono ?_
          rintro e u' w'' ⟨rfl, rfl, rfl⟩
          simp [Leaves, settle, results, Tryz.results79, go_sem, hz]
          exact CZ.out.bel
end Go.Proofs.YtpkggjobdmchlaaGreatDoor
/- wick.open at valid shops and candles. -/
namespace Go.Proofs.YtpkggjobdmchlaaGreatDoor
open Go.RowKit
theorem infoShopW : (Tryz.prog.info? 104).map (·.size) = some 19 := by kernel_rfl
theorem infoWS : (Tryz.prog.info? 27).map (·.size) = some 6 := by kernel_rfl
theorem infoWC : (Tryz.prog.info? 32).map (·.size) = some 5 := by kernel_rfl
/-- The cells of an opened shop. -/
abbrev opC (vw vx : Value) (s : WShop) (c : Candle) (x : Wax) : Array Value := #[vw, vx, .int .i64 s.flame.1, .int .i64 s.flame.2, .int .i64 s.pool.1, .int .i64 s.pool.2, .int .i64 c.wax, .int .i64 c.dia, .int .i64 c.draught, .int .i64 c.cold.1, .int .i64 c.cold.2, .string x.name, .int .i64 x.flow.1, .int .i64 x.flow.2, .int .i64 x.rise.1, .int .i64 x.rise.2, .int .i64 x.spread.1, .int .i64 x.spread.2, .int .i64 x.chill]
theorem run_buildShop (va : Option Addr) (nw vc : Nat) (xa : Option Addr) (nx xc : Nat) (f1 f2 p1 p2 a b d c1 c2 : Int) (nm : ByteArray) (x1 x2 x3 x4 x5 x6 x7 : Int) (w : World) :
    (Instr.build 104 #[(0, .agg #[.slice va nw vc, .slice xa nx xc, .int .i64 f1, .int .i64 f2, .int .i64 p1, .int .i64 p2]), (1, .agg #[.int .i64 a, .int .i64 b, .int .i64 d, .int .i64 c1, .int .i64 c2]), (2, .agg #[.string nm, .int .i64 x1, .int .i64 x2, .int .i64 x3, .int .i64 x4, .int .i64 x5, .int .i64 x6, .int .i64 x7])]).run Tryz.prog w
      = .ok (.agg #[.slice va nw vc, .slice xa nx xc, .int .i64 f1, .int .i64 f2, .int .i64 p1, .int .i64 p2, .int .i64 a, .int .i64 b, .int .i64 d, .int .i64 c1, .int .i64 c2, .string nm, .int .i64 x1, .int .i64 x2, .int .i64 x3, .int .i64 x4, .int .i64 x5, .int .i64 x6, .int .i64 x7]) w :=
  run_build w 104 _ _ (by kernel_rfl)
theorem wpList_valueU {P : Program} {ops : Array Oper} {rest : List Oper} {o : Oper} {a : Act} {w w' : World} {Q : Exit → Act → World → Prop} (hgd : o.guard = none) (v : Value)
    (hr : (execOp a.eval o).run P w = .ok (.value v) w') (h : wpList P ops Q rest (a.put o.dst v) w') : wpList P ops Q (o :: rest) a w :=
  wpList_plain hgd fun _ hK => by unfold Oper.wp; rw [hr]; exact hK _ _ h
theorem wpList_bdU {P : Program} {ops : Array Oper} {rest : List Oper} {o : Oper} {a : Act} {w : World} {Q : Exit → Act → World → Prop} (hgd : o.guard = none) (ty : TypeId) (parts : Array (Nat × Operand)) (ho : o.op = .build ty parts) (vs : Array (Nat × Value)) (hv : parts.map (fun (p : Nat × Operand) => (p.1, a.eval p.2)) = vs)
    (cells : Array Value) (hr : (Instr.build ty vs).run P w = .ok (.agg cells) w) (h : wpList P ops Q rest (a.put o.dst (.agg cells)) w) : wpList P ops Q (o :: rest) a w := by
  refine wpList_valueU hgd (.agg cells) ?_ h
  unfold execOp
  simp only [ho]
  rw [show (parts.map fun x => (x.1, a.eval x.2)) = vs from hv] 
  simp only [Sem.run_bind, hr, Result.andThen_ok, Sem.run_pure]
/-- A box is laid behind reads. -/
structure BxW (W0 : World) (cs : Array Value) (T : TypeId) (d9 d10 : Bool) (y73 y6 : Value) (w : World) : Prop where
  bel : Below W0.heap.size W0 w
  p : d9 = true → ∃ g, y73 = .pointer (some ⟨g, 0, none⟩) ∧ W0.heap.size ≤ g ∧ w.heap[g]? = some (.cells cs T)
  q : d10 = true → y6 = y73
set_option maxRecDepth 100000 in
set_option maxHeartbeats 16000000 in
theorem wopen_ok {s : WShop} {c : Candle} (hs : WOk s c) (ks : List Int) (hks : ∀ k ∈ ks, 0 ≤ k ∧ k ≤ (s.wicks.length : Int) - 1) (vw vx vk : Value) (w : World) (hv : WShopAt w.heap.size w vw vx s) (hvk : IntsIn .i64 w.heap.size w vk ks) :
    Calls Tryz.prog 41 #[.agg (wshopC vw vx s), .agg (candC c), vk] w fun e w' => ∃ g, e = .returned (.tuple #[.pointer (some ⟨g, 0, none⟩), .int .i64 0]) ∧ w.heap.size ≤ g ∧ w'.heap[g]? = some (.cells (opC vw vx s c (waxOf s c)) 104) ∧ Below w.heap.size w w' := by
  obtain ⟨va, vc, rfl, hvl, -⟩ := sl_shape hv.1
  obtain ⟨xa, xc, rfl, hxl, -⟩ := sl_shape hv.2
  have HV := Lib.hid hv
  have HS := Lib.hid hs
  have HKS := Lib.hid (outB_in hks)
  have HVK := Lib.hid hvk
  obtain ⟨ka, kc, rfl, -⟩ := hvk
  have hb0 := hs.nw1
  have hb1 := hs.nw12
  have hb2 := hs.nx1
  have hb3 := hs.nx6
  obtain ⟨hw0, hw1⟩ := hs.wax
  obtain ⟨hd0, hd1⟩ := hs.dia
  obtain ⟨hr0, hr1⟩ := hs.draught
  obtain ⟨hc0, hc1, hc2⟩ := hs.cold
  have HCK := fun w h => Lib.hid (wcheck_ok hs (.slice va s.wicks.length vc) (.slice xa s.waxes.length xc) w h)
  have hxi : c.wax.toNat < s.waxes.length := by omega
  have HCW : Hid (((c.wax.toNat : Nat) : Int) = c.wax) := by unfold Hid; omega
  have HXD : Hid (waxOf s c = s.waxes.getD c.wax.toNat default) := rfl
  obtain ⟨b, o, he, hbl, hx0, hx1, hx2, hx3, hx4, hx5, hx6, hx7, hsz⟩ := HV.out.2.at' hxi
  cases he
  rw [HXD.out]
  have HX0 : Hid (w.cell? ⟨b, o + c.wax.toNat * 8, none⟩ = some (.string (s.waxes.getD c.wax.toNat default).name)) := hx0
  have HX1 : Hid (w.cell? ⟨b, o + c.wax.toNat * 8 + 1, none⟩ = some (.int .i64 (s.waxes.getD c.wax.toNat default).flow.1)) := hx1
  have HX2 : Hid (w.cell? ⟨b, o + c.wax.toNat * 8 + 2, none⟩ = some (.int .i64 (s.waxes.getD c.wax.toNat default).flow.2)) := hx2
  have HX3 : Hid (w.cell? ⟨b, o + c.wax.toNat * 8 + 3, none⟩ = some (.int .i64 (s.waxes.getD c.wax.toNat default).rise.1)) := hx3
  have HX4 : Hid (w.cell? ⟨b, o + c.wax.toNat * 8 + 4, none⟩ = some (.int .i64 (s.waxes.getD c.wax.toNat default).rise.2)) := hx4
  have HX5 : Hid (w.cell? ⟨b, o + c.wax.toNat * 8 + 5, none⟩ = some (.int .i64 (s.waxes.getD c.wax.toNat default).spread.1)) := hx5
  have HX6 : Hid (w.cell? ⟨b, o + c.wax.toNat * 8 + 6, none⟩ = some (.int .i64 (s.waxes.getD c.wax.toNat default).spread.2)) := hx6
  have HX7 : Hid (w.cell? ⟨b, o + c.wax.toNat * 8 + 7, none⟩ = some (.int .i64 (s.waxes.getD c.wax.toNat default).chill)) := hx7
  have HBL := Lib.hid hbl
  generalize s.waxes.getD c.wax.toNat default = x at *
  generalize c.wax.toNat = kx at *
  clear hv hs hks hx0 hx1 hx2 hx3 hx4 hx5 hx6 hx7 hbl hsz HXD
  obtain ⟨cw, cd, cr, cc⟩ := c
  obtain ⟨cc1, cc2⟩ := cc
  simp only at *
  obtain rfl : cw = (kx : Int) := HCW.out.symm
  have C0 : Hid (Bs w [(w.heap.size, .cells #[.slice va s.wicks.length vc, .slice (some ⟨b, o, none⟩) s.waxes.length xc, .int .i64 s.flame.1, .int .i64 s.flame.2, .int .i64 s.pool.1, .int .i64 s.pool.2] 27), (w.heap.size + 1, .cells #[.int .i64 (kx : Int), .int .i64 cd, .int .i64 cr, .int .i64 cc1, .int .i64 cc2] 32)] _) := Lib.hid (((Bs.nil w).push _ rfl (.cells #[.slice va s.wicks.length vc, .slice (some ⟨b, o, none⟩) s.waxes.length xc, .int .i64 s.flame.1, .int .i64 s.flame.2, .int .i64 s.pool.1, .int .i64 s.pool.2] 27)).push (w.heap.size + 1) (by simp) (.cells #[.int .i64 (kx : Int), .int .i64 cd, .int .i64 cr, .int .i64 cc1, .int .i64 cc2] 32))
  have hc0_0 := C0.out.cell 0 rfl 0
  have hc0_1 := C0.out.cell 0 rfl 1
  have hc0_2 := C0.out.cell 0 rfl 2
  have hc0_3 := C0.out.cell 0 rfl 3
  have hc0_4 := C0.out.cell 0 rfl 4
  have hc0_5 := C0.out.cell 0 rfl 5
  go_enter Tryz.func41, Tryz.ntmps41
  go_wp2_with fail
  refine (HCK _ ((HV.out.below C0.out.bel).mono C0.out.bel.size)).out.mono ?_
  rintro e w1 ⟨rfl, hb⟩
  clear HCK
  have C1 := Lib.hid (C0.out.call hb)
  clear hc0_0 hc0_1 hc0_2 hc0_3 hc0_4 hc0_5
  clear hb C0
  have hc0_0 := C1.out.cell 0 rfl 0
  have hc0_1 := C1.out.cell 0 rfl 1
  have hc0_2 := C1.out.cell 0 rfl 2
  have hc0_3 := C1.out.cell 0 rfl 3
  have hc0_4 := C1.out.cell 0 rfl 4
  have hc0_5 := C1.out.cell 0 rfl 5
  clear hc0_0 hc0_1 hc0_2 hc0_3 hc0_4 hc0_5
  have hc0_0 := C1.out.cell 0 rfl 0
  have hc0_1 := C1.out.cell 0 rfl 1
  have hc1_0 := C1.out.cell 1 rfl 0
  have hc1_1 := C1.out.cell 1 rfl 1
  have hc1_2 := C1.out.cell 1 rfl 2
  have hc1_3 := C1.out.cell 1 rfl 3
  have hc1_4 := C1.out.cell 1 rfl 4
  go_wp2_with fail
  refine (kout_r false _ _ ks HKS.out _ _ _ (HVK.out.below C1.out.bel) C1.out.bel.size).mono ?_
  rintro e w1 ⟨rfl, hb⟩
  clear HKS HVK
  have C2 := Lib.hid (C1.out.call hb)
  clear hc0_0 hc0_1 hc1_0 hc1_1 hc1_2 hc1_3 hc1_4
  clear hb C1
  have hc0_0 := C2.out.cell 0 rfl 0
  have hc0_1 := C2.out.cell 0 rfl 1
  have hc1_0 := C2.out.cell 1 rfl 0
  have hc1_1 := C2.out.cell 1 rfl 1
  have hc1_2 := C2.out.cell 1 rfl 2
  have hc1_3 := C2.out.cell 1 rfl 3
  have hc1_4 := C2.out.cell 1 rfl 4
  go_wp2_with fail
  refine (kout_row false 0 _ [(kx : Int)] 1 rfl (by simp) (by rw [outB_one, outOne_ff]; omega) _ _ rfl _ (heap_alloc_new _ _)).mono ?_
  rintro e w1 ⟨rfl, hb⟩
  have C3 := Lib.hid ((C2.out.alloc _).call hb)
  clear hc0_0 hc0_1 hc1_0 hc1_1 hc1_2 hc1_3 hc1_4
  clear hb C2
  have hc0_0 := C3.out.cell 0 rfl 0
  have hc0_1 := C3.out.cell 0 rfl 1
  have hc1_0 := C3.out.cell 1 rfl 0
  have hc1_1 := C3.out.cell 1 rfl 1
  have hc1_2 := C3.out.cell 1 rfl 2
  have hc1_3 := C3.out.cell 1 rfl 3
  have hc1_4 := C3.out.cell 1 rfl 4
  go_wp2_with fail
  refine (kout_row false 1 2000 [cd] 1 rfl (by simp) (by rw [outB_one, outOne_ff]; omega) _ _ rfl _ (heap_alloc_new _ _)).mono ?_
  rintro e w1 ⟨rfl, hb⟩
  have C4 := Lib.hid ((C3.out.alloc _).call hb)
  clear hc0_0 hc0_1 hc1_0 hc1_1 hc1_2 hc1_3 hc1_4
  clear hb C3
  have hc0_0 := C4.out.cell 0 rfl 0
  have hc0_1 := C4.out.cell 0 rfl 1
  have hc1_0 := C4.out.cell 1 rfl 0
  have hc1_1 := C4.out.cell 1 rfl 1
  have hc1_2 := C4.out.cell 1 rfl 2
  have hc1_3 := C4.out.cell 1 rfl 3
  have hc1_4 := C4.out.cell 1 rfl 4
  go_wp2_with fail
  refine (kout_row false 0 90 [cr] 1 rfl (by simp) (by rw [outB_one, outOne_ff]; omega) _ _ rfl _ (heap_alloc_new _ _)).mono ?_
  rintro e w1 ⟨rfl, hb⟩
  have C5 := Lib.hid ((C4.out.alloc _).call hb)
  clear hc0_0 hc0_1 hc1_0 hc1_1 hc1_2 hc1_3 hc1_4
  clear hb C4
  have hc0_0 := C5.out.cell 0 rfl 0
  have hc0_1 := C5.out.cell 0 rfl 1
  have hc1_0 := C5.out.cell 1 rfl 0
  have hc1_1 := C5.out.cell 1 rfl 1
  have hc1_2 := C5.out.cell 1 rfl 2
  have hc1_3 := C5.out.cell 1 rfl 3
  have hc1_4 := C5.out.cell 1 rfl 4
  go_wp2_with fail
  refine (kout_row false 0 300 [cc1, cc2] 2 rfl (by simp) (outB_in (by simp; omega)) _ _ rfl _ (heap_alloc_new _ _)).mono ?_
  rintro e w1 ⟨rfl, hb⟩
  have C6 := Lib.hid ((C5.out.alloc _).call hb)
  clear hc0_0 hc0_1 hc1_0 hc1_1 hc1_2 hc1_3 hc1_4
  clear hb C5
  have hc0_0 := C6.out.cell 0 rfl 0
  have hc0_1 := C6.out.cell 0 rfl 1
  have hc1_0 := C6.out.cell 1 rfl 0
  have hc1_1 := C6.out.cell 1 rfl 1
  have hc1_2 := C6.out.cell 1 rfl 2
  have hc1_3 := C6.out.cell 1 rfl 3
  have hc1_4 := C6.out.cell 1 rfl 4
  go_wp2_with fail
  have HXX := Lib.hid (SpansIn.cells (cs := #[.int .i64 ((cc1, cc2) : Int × Int).1, .int .i64 ((cc1, cc2) : Int × Int).2]) (l := [((cc1, cc2) : Int × Int)]) (n := 1) (heap_alloc_new w1 (.cells #[.int .i64 ((cc1, cc2) : Int × Int).1, .int .i64 ((cc1, cc2) : Int × Int).2] 25)) rfl (by simp) (by intro i hi; have h3 : i = 0 := (by simp at hi; omega); subst h3; exact ⟨rfl, rfl⟩))
  refine (turned_any false _ _ _ HXX.out (by simp; omega)).mono ?_
  rintro e w1 ⟨rfl, hb⟩
  clear HXX
  have C7 := Lib.hid ((C6.out.alloc _).call hb)
  clear hc0_0 hc0_1 hc1_0 hc1_1 hc1_2 hc1_3 hc1_4
  clear hb C6
  have hc0_0 := C7.out.cell 0 rfl 0
  have hc0_1 := C7.out.cell 0 rfl 1
  have hc1_0 := C7.out.cell 1 rfl 0
  have hc1_1 := C7.out.cell 1 rfl 1
  have hc1_2 := C7.out.cell 1 rfl 2
  have hc1_3 := C7.out.cell 1 rfl 3
  have hc1_4 := C7.out.cell 1 rfl 4
  clear hc0_0 hc0_1 hc1_0 hc1_1 hc1_2 hc1_3 hc1_4
  go_wp2_with fail
  refine wp_region_inv1 (by kernel_rfl) (by kernel_rfl) [73, 6] (fun D y w' => BxW w1 #[.slice va s.wicks.length vc, .slice (some ⟨b, o, none⟩) s.waxes.length xc, .int .i64 s.flame.1, .int .i64 s.flame.2, .int .i64 s.pool.1, .int .i64 s.pool.2, .int .i64 (kx : Int), .int .i64 cd, .int .i64 cr, .int .i64 cc1, .int .i64 cc2, .string x.name, .int .i64 x.flow.1, .int .i64 x.flow.2, .int .i64 x.rise.1, .int .i64 x.rise.2, .int .i64 x.spread.1, .int .i64 x.spread.2, .int .i64 x.chill] 104 (D 9) (D 10) (y 73) (y 6) w') ⟨(Below.refl _ _).drew, fun h => (by cases h), fun h => (by cases h)⟩ ?FP ?hFP ?_
  case hFP =>
    intro y
    simp only [fill, List.foldl, Act.put, List.setIfInBounds_toArray, List.set]
    exact rfl
  apply obl_det
  case hrun =>
    intro D y wz hW hD R hR
    have HRR := Lib.hid hR
    clear hR
    have HW := Lib.hid hW
    have HZ := Lib.hid (C7.out.call HW.out.bel)
    have h1 := HZ.out.get 0 rfl
    clear hW hD
    refine wpList_load_row rfl 27 _ rfl _ rfl _ _ _ _ h1 Tryz.underlying27 rfl infoWS ?_
    go_simp
    exact HRR.out _ ⟨HW.out.bel, HW.out.p, HW.out.q⟩
  case hnp => rfl
  case hv => first | exact ⟨_, fun _ => rfl⟩ | exact ⟨undef, fun _ => rfl⟩
  apply obl_det
  case hrun =>
    intro D y wz hW hD R hR
    have HRR := Lib.hid hR
    clear hR
    have HW := Lib.hid hW
    have HZ := Lib.hid (C7.out.call HW.out.bel)
    have h1 := HZ.out.get 1 rfl
    clear hW hD
    refine wpList_load_row rfl 32 _ rfl _ rfl _ _ _ _ h1 Tryz.underlying32 rfl infoWC ?_
    go_simp
    exact HRR.out _ ⟨HW.out.bel, HW.out.p, HW.out.q⟩
  case hnp => rfl
  case hv => first | exact ⟨_, fun _ => rfl⟩ | exact ⟨undef, fun _ => rfl⟩
  apply obl_det
  case hrun =>
    intro D y wz hW hD R hR
    have HRR := Lib.hid hR
    clear hR
    have HW := Lib.hid hW
    clear hW hD
    go_wp2_with fail
    exact HRR.out _ ⟨HW.out.bel, HW.out.p, HW.out.q⟩
  case hnp => rfl
  case hv => first | exact ⟨_, fun _ => rfl⟩ | exact ⟨undef, fun _ => rfl⟩
  apply obl_det
  case hrun =>
    intro D y wz hW hD R hR
    have HRR := Lib.hid hR
    clear hR
    have HW := Lib.hid hW
    have HZ := Lib.hid (C7.out.call HW.out.bel)
    have h1 := HZ.out.cell 0 rfl 1
    clear hW hD
    go_wp2_with fail
    exact HRR.out _ ⟨HW.out.bel, HW.out.p, HW.out.q⟩
  case hnp => rfl
  case hv => first | exact ⟨_, fun _ => rfl⟩ | exact ⟨undef, fun _ => rfl⟩
  apply obl_det
  case hrun =>
    intro D y wz hW hD R hR
    have HRR := Lib.hid hR
    clear hR
    have HW := Lib.hid hW
    clear hW hD
    go_wp2_with fail
    exact HRR.out _ ⟨HW.out.bel, HW.out.p, HW.out.q⟩
  case hnp => rfl
  case hv => first | exact ⟨_, fun _ => rfl⟩ | exact ⟨undef, fun _ => rfl⟩
  apply obl_det
  case hrun =>
    intro D y wz hW hD R hR
    have HRR := Lib.hid hR
    clear hR
    have HW := Lib.hid hW
    have HZ := Lib.hid (C7.out.call HW.out.bel)
    have h1 := HZ.out.cell 1 rfl 0
    clear hW hD
    go_wp2_with fail
    exact HRR.out _ ⟨HW.out.bel, HW.out.p, HW.out.q⟩
  case hnp => rfl
  case hv => first | exact ⟨_, fun _ => rfl⟩ | exact ⟨undef, fun _ => rfl⟩
  apply obl_det
  case hrun =>
    intro D y wz hW hD R hR
    have HRR := Lib.hid hR
    clear hR
    have HW := Lib.hid hW
    clear hW hD
    go_wp2_with fail
    exact HRR.out _ ⟨HW.out.bel, HW.out.p, HW.out.q⟩
  case hnp => rfl
  case hv => first | exact ⟨_, fun _ => rfl⟩ | exact ⟨undef, fun _ => rfl⟩
  apply obl_det
  case hrun =>
    intro D y wz hW hD R hR
    have HRR := Lib.hid hR
    clear hR
    have HW := Lib.hid hW
    have HZ := Lib.hid (C7.out.call HW.out.bel)
    have h0 := (HZ.out.bel.cell (p := ⟨b, o + kx * 8, none⟩) HBL.out).trans HX0.out
    have h1 := (HZ.out.bel.cell (p := ⟨b, o + kx * 8 + 1, none⟩) HBL.out).trans HX1.out
    have h2 := (HZ.out.bel.cell (p := ⟨b, o + kx * 8 + 2, none⟩) HBL.out).trans HX2.out
    have h3 := (HZ.out.bel.cell (p := ⟨b, o + kx * 8 + 3, none⟩) HBL.out).trans HX3.out
    have h4 := (HZ.out.bel.cell (p := ⟨b, o + kx * 8 + 4, none⟩) HBL.out).trans HX4.out
    have h5 := (HZ.out.bel.cell (p := ⟨b, o + kx * 8 + 5, none⟩) HBL.out).trans HX5.out
    have h6 := (HZ.out.bel.cell (p := ⟨b, o + kx * 8 + 6, none⟩) HBL.out).trans HX6.out
    have h7 := (HZ.out.bel.cell (p := ⟨b, o + kx * 8 + 7, none⟩) HBL.out).trans HX7.out
    clear hW hD
    go_wp2_with fail
    exact HRR.out _ ⟨HW.out.bel, HW.out.p, HW.out.q⟩
  case hnp => rfl
  case hv => first | exact ⟨_, fun _ => rfl⟩ | exact ⟨undef, fun _ => rfl⟩
  apply obl_det
  case hrun =>
    intro D y wz hW hD R hR
    have HRR := Lib.hid hR
    clear hR
    have HW := Lib.hid hW
    clear hW hD
    refine wpList_bdU rfl 104 _ rfl _ (by simp only [List.map_toArray, List.map]; rfl) _ (run_buildShop ..) ?_
    exact HRR.out _ ⟨HW.out.bel, HW.out.p, HW.out.q⟩
  case hnp => rfl
  case hv => first | exact ⟨_, fun _ => rfl⟩ | exact ⟨undef, fun _ => rfl⟩
  apply obl_priv 73
  case hd => rfl
  case hp => rfl
  case hrun =>
    intro D y wz hW hD R hR
    have HRR := Lib.hid hR
    clear hR
    have h10 : D 10 = false := hD.post _ 10 rfl (by kernel_rfl)
    have HBS := Lib.hid hW.bel
    have H10 := Lib.hid h10
    clear hW hD h10
    go_wp2_with fail
    refine HRR.out (.pointer (some ⟨wz.heap.size, 0, none⟩)) _ ⟨HBS.out.alloc HBS.out.size _, fun _ => ⟨_, rfl, HBS.out.size, heap_alloc_new _ _⟩, fun h => ?_⟩
    have h : D 10 = true := h
    rw [H10.out] at h
    cases h
  apply obl_priv 6
  case hd => rfl
  case hp => rfl
  case hrun =>
    intro D y wz hW hD R hR
    have HRR := Lib.hid hR
    clear hR
    obtain ⟨gp, e, hgt, hcell⟩ := hW.p (hD.pre _ 9 rfl (by kernel_rfl))
    have HW := Lib.hid hW
    have E := Lib.hid e
    clear hW hD hcell e hgt
    go_wp2_with fail
    refine HRR.out (y 73) _ ⟨HW.out.bel, HW.out.p, fun _ => rfl⟩
  apply obl_det
  case hrun =>
    intro D y wz hW hD R hR
    have HRR := Lib.hid hR
    clear hR
    have HW := Lib.hid hW
    clear hW hD
    go_wp2_with fail
    exact HRR.out _ ⟨HW.out.bel, HW.out.p, HW.out.q⟩
  case hnp => rfl
  case hv => first | exact ⟨_, fun _ => rfl⟩ | exact ⟨undef, fun _ => rfl⟩
  apply obl_nil
  intro D y w8 hall hW
  obtain ⟨gp, e, hgt, hcell⟩ := hW.p (hall 9 (by decide))
  have e6 := hW.q (hall 10 (by decide))
  have HB := Lib.hid (C7.out.call hW.bel)
  have HCL := Lib.hid hcell
  have HGT := Lib.hid (Nat.le_trans C7.out.bel.size hgt)
  clear hW hall hcell hgt
  rw [e6, e]
  clear e6 e
  go_wp2_with fail
  go_ret2
  exact ⟨gp, rfl, HGT.out, HCL.out, HB.out.bel⟩
end Go.Proofs.YtpkggjobdmchlaaGreatDoor
