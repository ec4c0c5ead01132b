/- wick.At. -/
import Derived.Test.YteebihcdgpfldaaGreatU7
namespace Go.Proofs.YteebihcdgpfldaaGreat
open Go.RowKit
theorem intsIn_blk {w : World} {g n : Nat} {l : List Int} {cs : Array Value} (h : w.heap[g]? = some (.cells cs 3)) (hcs : cs = ints l) (hl : l.length ≤ 1000) (hn : l.length = n) : IntsIn .i64 w.heap.size w (.slice (some ⟨g, 0, none⟩) n n) l := by
 subst hn hcs
 refine ⟨_, _, rfl, by omega, .inr ⟨g, 0, rfl, block_lt h, fun i hi => ?_⟩⟩
 rw [cell_of_row w g _ _ _ _ h, Nat.zero_add, ints_get _ _ hi]
set_option maxRecDepth 100000 in
set_option maxHeartbeats 16000000 in
theorem at_ok {s : WShop} {c : Candle} (hs : WOk s c) (k : Nat) (hk : k < s.wicks.length) (t : WTru) (ht : trueW (waxOf s c) c (wpull s k) t = true) (vw vx : Value) (w : World) (hv : WShopAt w.heap.size w vw vx s) :
 Calls Tryz.prog 15 #[.agg (wshopC vw vx s), .int .i64 k, .agg (candC c), .agg (wtruC t)] w fun e w' => e = .returned (.tuple #[.agg (burnC (burnV (waxOf s c) t)), .int .i64 0]) ∧ Below w.heap.size w w' := by
 obtain ⟨va, vc, rfl, hvl, -⟩ := sl_shape hv.1
 obtain ⟨xa, xc, rfl, hxl, -⟩ := sl_shape hv.2
 have HBO := Lib.hid (hs.bok hk)
 obtain ⟨⟨tp0, tp1⟩, ⟨tf0, tf1⟩, ⟨tr0, tr1⟩, ⟨ts0, ts1⟩, ⟨td0, td1⟩, ⟨tc0, tc1⟩⟩ := trueW_iff.1 ht
 have HT := fun g w h1 h2 => Lib.hid (truths_ok (s := s) (c := c) k hk hs.draught (waxOf s c) (.slice va s.wicks.length vc) (.slice xa s.waxes.length xc) g w h1 h2)
 have HB1 := fun g w h => Lib.hid (burn_ok (s := s) HBO.out t ht (.slice va s.wicks.length vc) (.slice xa s.waxes.length xc) g w h)
 have HOP := fun vk w h1 h2 => Lib.hid (wopen_ok hs [(k : Int)] (by intro z hz; simp at hz; omega) (.slice va s.wicks.length vc) (.slice xa s.waxes.length xc) vk w h1 h2)
 have HV := Lib.hid hv
 have C0 : Hid (Bs w [(w.heap.size, .cells #[.slice va s.wicks.length vc, .slice xa s.waxes.length xc, .int .i64 s.flame.1, .int .i64 s.flame.2, .int .i64 s.pool.1, .int .i64 s.pool.2] 32), (w.heap.size + 1, .cells #[.int .i64 c.wax, .int .i64 c.dia, .int .i64 c.draught, .int .i64 c.cold.1, .int .i64 c.cold.2] 34), (w.heap.size + 1 + 1, .cells #[.int .i64 t.pull, .int .i64 t.flow, .int .i64 t.rise, .int .i64 t.spread, .int .i64 t.draught, .int .i64 t.cold] 63), (w.heap.size + 1 + 1 + 1, .cells #[.int .i64 0, .int .i64 0, .int .i64 0] 70), (w.heap.size + 1 + 1 + 1 + 1, .cells #[.int .i64 (k : Int)] 3)] _) := Lib.hid ((((((Bs.nil w).push _ rfl (.cells #[.slice va s.wicks.length vc, .slice xa s.waxes.length xc, .int .i64 s.flame.1, .int .i64 s.flame.2, .int .i64 s.pool.1, .int .i64 s.pool.2] 32)).push (w.heap.size + 1) (by simp) (.cells #[.int .i64 c.wax, .int .i64 c.dia, .int .i64 c.draught, .int .i64 c.cold.1, .int .i64 c.cold.2] 34)).push (w.heap.size + 1 + 1) (by simp) (.cells #[.int .i64 t.pull, .int .i64 t.flow, .int .i64 t.rise, .int .i64 t.spread, .int .i64 t.draught, .int .i64 t.cold] 63)).push (w.heap.size + 1 + 1 + 1) (by simp) (.cells #[.int .i64 0, .int .i64 0, .int .i64 0] 70)).push (w.heap.size + 1 + 1 + 1 + 1) (by simp) (.cells #[.int .i64 (k : Int)] 3))
 have hc0 := C0.out.cell 0 rfl 0
 have hc1 := C0.out.cell 0 rfl 1
 have hc2 := C0.out.cell 0 rfl 2
 have hc3 := C0.out.cell 0 rfl 3
 have hc4 := C0.out.cell 0 rfl 4
 have hc5 := C0.out.cell 0 rfl 5
 have hk0 := C0.out.cell 1 rfl 0
 have hk1 := C0.out.cell 1 rfl 1
 have hk2 := C0.out.cell 1 rfl 2
 have hk3 := C0.out.cell 1 rfl 3
 have hk4 := C0.out.cell 1 rfl 4
 clear hs hv hk ht
 go_enter Tryz.func15, Tryz.ntmps15
 go_wp2_with fail
 refine (HOP _ _ ((HV.out.below C0.out.bel).mono C0.out.bel.size) (intsIn_blk (l := [(k : Int)]) (C0.out.get 4 rfl) rfl (by simp) rfl)).out.mono ?_
 rintro e w1 ⟨g, rfl, -, hg, hb⟩
 have C1 := Lib.hid (C0.out.call hb)
 have HG := Lib.hid hg
 clear hb hg C0 HOP hc0 hc1 hc2 hc3 hc4 hc5 hk0 hk1 hk2 hk3 hk4
 go_wp2_with fail
 refine (HT g _ ((HV.out.below C1.out.bel).mono C1.out.bel.size) HG.out).out.mono ?_
 rintro e w2 ⟨rfl, hb⟩
 have C2 := Lib.hid (C1.out.call hb)
 have HG := Lib.hid (block_keep HG.out hb)
 clear hb C1 HT HV
 have CP := Lib.hid ((C2.out.push _ rfl (.cells #[.int .i64 0, .int .i64 0, .int .i64 0, .int .i64 0, .int .i64 0, .int .i64 0] 63)).push (w2.heap.size + 1) (by simp) (.cells #[.int .i64 0, .int .i64 0, .int .i64 0, .int .i64 0, .int .i64 0, .int .i64 0] 63))
 have HG2 : Hid (((w2.alloc (.cells #[.int .i64 0, .int .i64 0, .int .i64 0, .int .i64 0, .int .i64 0, .int .i64 0] 63)).alloc (.cells #[.int .i64 0, .int .i64 0, .int .i64 0, .int .i64 0, .int .i64 0, .int .i64 0] 63)).heap[g]? = some (.cells (opC (.slice va s.wicks.length vc) (.slice xa s.waxes.length xc) s c (waxOf s c)) 152)) := block_keep HG.out (((Below.refl _ _).alloc (Nat.le_refl _) _).alloc (by simp) _)
 have HGL := Lib.hid (block_lt HG.out)
 clear C2 HG
 go_wp2_with (first | (refine wpList_store_bu rfl 63 _ _ rfl CP.out 5 _ #[.int .i64 (wpull s k).1, .int .i64 (waxOf s c).flow.1, .int .i64 (waxOf s c).rise.1, .int .i64 (waxOf s c).spread.1, .int .i64 (-c.draught), .int .i64 c.cold.2] _ _ rfl rfl rfl infoTru rfl (by simp [Value.oneCell']) ?_; intro w3 hC3 hU3; have CQ : Hid (Bs w [(w.heap.size, .cells #[.slice va s.wicks.length vc, .slice xa s.waxes.length xc, .int .i64 s.flame.1, .int .i64 s.flame.2, .int .i64 s.pool.1, .int .i64 s.pool.2] 32), (w.heap.size + 1, .cells #[.int .i64 c.wax, .int .i64 c.dia, .int .i64 c.draught, .int .i64 c.cold.1, .int .i64 c.cold.2] 34), (w.heap.size + 1 + 1, .cells #[.int .i64 t.pull, .int .i64 t.flow, .int .i64 t.rise, .int .i64 t.spread, .int .i64 t.draught, .int .i64 t.cold] 63), (w.heap.size + 1 + 1 + 1, .cells #[.int .i64 0, .int .i64 0, .int .i64 0] 70), (w.heap.size + 1 + 1 + 1 + 1, .cells #[.int .i64 (k : Int)] 3), (w2.heap.size, .cells #[.int .i64 (wpull s k).1, .int .i64 (waxOf s c).flow.1, .int .i64 (waxOf s c).rise.1, .int .i64 (waxOf s c).spread.1, .int .i64 (-c.draught), .int .i64 c.cold.2] 63), (w2.heap.size + 1, .cells #[.int .i64 0, .int .i64 0, .int .i64 0, .int .i64 0, .int .i64 0, .int .i64 0] 63)] w3) := hC3; have HG3 := Lib.hid ((hU3 g (Nat.ne_of_lt HGL.out)).trans HG2.out); clear hC3 hU3 CP HG2) | (refine wpList_store_bu rfl 63 _ _ rfl CQ.out 6 _ #[.int .i64 (wpull s k).2, .int .i64 (waxOf s c).flow.2, .int .i64 (waxOf s c).rise.2, .int .i64 (waxOf s c).spread.2, .int .i64 c.draught, .int .i64 c.cold.1] _ _ rfl rfl rfl infoTru rfl (by simp [Value.oneCell']) ?_; intro w4 hC4 hU4; have CR : Hid (Bs w [(w.heap.size, .cells #[.slice va s.wicks.length vc, .slice xa s.waxes.length xc, .int .i64 s.flame.1, .int .i64 s.flame.2, .int .i64 s.pool.1, .int .i64 s.pool.2] 32), (w.heap.size + 1, .cells #[.int .i64 c.wax, .int .i64 c.dia, .int .i64 c.draught, .int .i64 c.cold.1, .int .i64 c.cold.2] 34), (w.heap.size + 1 + 1, .cells #[.int .i64 t.pull, .int .i64 t.flow, .int .i64 t.rise, .int .i64 t.spread, .int .i64 t.draught, .int .i64 t.cold] 63), (w.heap.size + 1 + 1 + 1, .cells #[.int .i64 0, .int .i64 0, .int .i64 0] 70), (w.heap.size + 1 + 1 + 1 + 1, .cells #[.int .i64 (k : Int)] 3), (w2.heap.size, .cells #[.int .i64 (wpull s k).1, .int .i64 (waxOf s c).flow.1, .int .i64 (waxOf s c).rise.1, .int .i64 (waxOf s c).spread.1, .int .i64 (-c.draught), .int .i64 c.cold.2] 63), (w2.heap.size + 1, .cells #[.int .i64 (wpull s k).2, .int .i64 (waxOf s c).flow.2, .int .i64 (waxOf s c).rise.2, .int .i64 (waxOf s c).spread.2, .int .i64 c.draught, .int .i64 c.cold.1] 63)] w4) := hC4; have HG4 := Lib.hid ((hU4 g (by have := HGL.out; omega)).trans HG3.out); clear hC4 hU4 CQ HG3; have ha0 := CR.out.cell 5 rfl 0; have hb0 := CR.out.cell 6 rfl 0; have ht0 := CR.out.cell 2 rfl 0))
 refine (kout_row false _ _ [t.pull] 1 rfl (by simp) (by rw [outB_one, outOne_ff]; omega) _ _ rfl _ (heap_alloc_new _ _)).mono ?_
 rintro e w5 ⟨rfl, hb⟩
 have D0 := Lib.hid ((CR.out.alloc _).call hb)
 have HH0 := Lib.hid (block_keep (block_keep HG4.out ((Below.refl _ _).alloc (Nat.le_refl _) _)) hb)
 clear hb CR HG4 ha0 hb0 ht0
 have ha1 := D0.out.cell 5 rfl 1
 have hb1 := D0.out.cell 6 rfl 1
 have ht1 := D0.out.cell 2 rfl 1
 go_wp2_with fail
 refine (kout_row false _ _ [t.flow] 1 rfl (by simp) (by rw [outB_one, outOne_ff]; omega) _ _ rfl _ (heap_alloc_new _ _)).mono ?_
 rintro e w5 ⟨rfl, hb⟩
 have D1 := Lib.hid ((D0.out.alloc _).call hb)
 have HH1 := Lib.hid (block_keep (block_keep HH0.out ((Below.refl _ _).alloc (Nat.le_refl _) _)) hb)
 clear hb D0 HH0 ha1 hb1 ht1
 have ha2 := D1.out.cell 5 rfl 2
 have hb2 := D1.out.cell 6 rfl 2
 have ht2 := D1.out.cell 2 rfl 2
 go_wp2_with fail
 refine (kout_row false _ _ [t.rise] 1 rfl (by simp) (by rw [outB_one, outOne_ff]; omega) _ _ rfl _ (heap_alloc_new _ _)).mono ?_
 rintro e w5 ⟨rfl, hb⟩
 have D2 := Lib.hid ((D1.out.alloc _).call hb)
 have HH2 := Lib.hid (block_keep (block_keep HH1.out ((Below.refl _ _).alloc (Nat.le_refl _) _)) hb)
 clear hb D1 HH1 ha2 hb2 ht2
 have ha3 := D2.out.cell 5 rfl 3
 have hb3 := D2.out.cell 6 rfl 3
 have ht3 := D2.out.cell 2 rfl 3
 go_wp2_with fail
 refine (kout_row false _ _ [t.spread] 1 rfl (by simp) (by rw [outB_one, outOne_ff]; omega) _ _ rfl _ (heap_alloc_new _ _)).mono ?_
 rintro e w5 ⟨rfl, hb⟩
 have D3 := Lib.hid ((D2.out.alloc _).call hb)
 have HH3 := Lib.hid (block_keep (block_keep HH2.out ((Below.refl _ _).alloc (Nat.le_refl _) _)) hb)
 clear hb D2 HH2 ha3 hb3 ht3
 have ha4 := D3.out.cell 5 rfl 4
 have hb4 := D3.out.cell 6 rfl 4
 have ht4 := D3.out.cell 2 rfl 4
 go_wp2_with fail
 refine (kout_row false _ _ [t.draught] 1 rfl (by simp) (by rw [outB_one, outOne_ff]; omega) _ _ rfl _ (heap_alloc_new _ _)).mono ?_
 rintro e w5 ⟨rfl, hb⟩
 have D4 := Lib.hid ((D3.out.alloc _).call hb)
 have HH4 := Lib.hid (block_keep (block_keep HH3.out ((Below.refl _ _).alloc (Nat.le_refl _) _)) hb)
 clear hb D3 HH3 ha4 hb4 ht4
 have ha5 := D4.out.cell 5 rfl 5
 have hb5 := D4.out.cell 6 rfl 5
 have ht5 := D4.out.cell 2 rfl 5
 go_wp2_with fail
 refine (kout_row false _ _ [t.cold] 1 rfl (by simp) (by rw [outB_one, outOne_ff]; omega) _ _ rfl _ (heap_alloc_new _ _)).mono ?_
 rintro e w5 ⟨rfl, hb⟩
 have D5 := Lib.hid ((D4.out.alloc _).call hb)
 have HH5 := Lib.hid (block_keep (block_keep HH4.out ((Below.refl _ _).alloc (Nat.le_refl _) _)) hb)
 clear hb D4 HH4 ha5 hb5 ht5
 have ht0 := D5.out.cell 2 rfl 0
 have ht1 := D5.out.cell 2 rfl 1
 have ht2 := D5.out.cell 2 rfl 2
 have ht3 := D5.out.cell 2 rfl 3
 have ht4 := D5.out.cell 2 rfl 4
 have ht5 := D5.out.cell 2 rfl 5
 go_wp2_with fail
 refine (HB1 g _ HH5.out).out.mono ?_
 rintro e w6 ⟨rfl, hb⟩
 have CY := Lib.hid (D5.out.call hb)
 clear hb D5 ht0 ht1 ht2 ht3 ht4 ht5
 go_wp2_with (refine wpList_store_bs rfl 70 _ _ rfl CY.out 3 _ (burnC (burnV (waxOf s c) t)) _ _ rfl rfl rfl infoBurn rfl (by simp [Value.oneCell']) ?_; intro w7 hC7; have CZ := Lib.hid hC7; clear hC7 CY)
 exact bodyPost_ret (results_row_tmp (fn := Tryz.f15) rfl _ _ _ _ _ _ _ rfl rfl (CZ.out.get 3 rfl) Tryz.underlying70 rfl infoBurn) rfl ⟨rfl, CZ.out.bel⟩
end Go.Proofs.YteebihcdgpfldaaGreat
