/- blend.curve.check and blend.Check at what is valid. -/
import Derived.Test.YtohglbfeahofhaaGreatD1
import Derived.Test.YtohglbfeahofhaaGreatG1
namespace Go.Proofs.YtohglbfeahofhaaGreat
open Go.RowKit
theorem infoPt : (Tryz.prog.info? 108).map (·.size) = some 2 := by kernel_rfl
theorem infoCur : (Tryz.prog.info? 110).map (·.size) = some 2 := by kernel_rfl
set_option maxRecDepth 100000 in
set_option maxHeartbeats 4000000 in
theorem ccheck_ok (c : List (Int × Int)) (hl : c.length ≤ 6) (hpt : ∀ j, j < c.length → 0 ≤ (c.getD j (0, 0)).1 ∧ (c.getD j (0, 0)).1 ≤ 20 ∧ -300 ≤ (c.getD j (0, 0)).2 ∧ (c.getD j (0, 0)).2 ≤ 300)
    (hinc : ∀ j, j + 1 < c.length → (c.getD j (0, 0)).1 < (c.getD (j + 1) (0, 0)).1) (parts : Int) (v : Value) (w : World) (hv : SpansIn w.heap.size w v c) :
    Calls Tryz.prog 80 #[.agg #[v, .int .i64 parts]] w fun e w' => e = .returned (.int .i64 0) ∧ Below w.heap.size w w' := by
  obtain ⟨a, cap, rfl, -, -⟩ := sl_shape hv
  have HV := Lib.hid hv
  have HPT := Lib.hid hpt
  have HIN : Hid (∀ i, i < c.length → lastP c i < (c.getD i (0, 0)).1) := fun i hi => by
    cases i with
    | zero => have := hpt 0 hi; show -1 < _; omega
    | succ j => exact hinc j hi
  clear hv hpt hinc
  have h6 : decide ((6 : Int) < (c.length : Int)) = false := by simp; omega
  have C0 : Hid (Bs w [(w.heap.size, .cells #[.slice a c.length cap, .int .i64 parts] 110)] _) := Lib.hid ((Bs.nil w).push _ rfl (.cells #[.slice a c.length cap, .int .i64 parts] 110))
  have hc0 := C0.out.cell 0 rfl 0
  go_enter Tryz.func80, Tryz.ntmps80
  go_wp2_with fail
  clear h6 hc0
  go_loopw [3, 13] (fun lv iv wr => ∃ i : Nat, iv = .int .i64 i ∧ i ≤ c.length ∧ lv = .int .i64 (lastP c i) ∧ Bs w [(w.heap.size, .cells #[.slice a c.length cap, .int .i64 parts] 110)] wr) (fun _ iv _ => c.length - (intOf iv).toNat)
  case atStart => exact ⟨0, rfl, by omega, rfl, C0.out⟩
  case round =>
    clear C0
    obtain ⟨i, rfl, hi, rfl, hbs⟩ := hrel
    have CI := Lib.hid hbs
    clear hbs
    by_cases hil : i < c.length
    · have hii : (i : Int) < (c.length : Int) := by omega
      obtain ⟨b, o, rfl, hbl, hx1, hx2⟩ := HV.out.at' hil
      have hy1 := (CI.out.bel.cell (p := ⟨b, o + i * 2, none⟩) hbl).trans hx1
      have hy2 := (CI.out.bel.cell (p := ⟨b, o + i * 2 + 1, none⟩) hbl).trans hx2
      have HLS : Hid (lastP c (i + 1) = (c.getD i (0, 0)).1) := rfl
      have hp : 0 ≤ (c.getD i (0, 0)).1 ∧ (c.getD i (0, 0)).1 ≤ 20 ∧ -300 ≤ (c.getD i (0, 0)).2 ∧ (c.getD i (0, 0)).2 ≤ 300 := HPT.out i hil
      have hn : lastP c i < (c.getD i (0, 0)).1 := HIN.out i hil
      have hy1 : wr.cell? ⟨b, o + i * 2, none⟩ = some (.int .i64 (c.getD i (0, 0)).1) := hy1
      have hy2 : wr.cell? ⟨b, o + i * 2 + 1, none⟩ = some (.int .i64 (c.getD i (0, 0)).2) := hy2
      generalize c.getD i (0, 0) = p at *
      generalize lastP c i = la at *
      obtain ⟨p1, p2⟩ := p
      simp only at hp hn HLS hy1 hy2
      have HPP := Lib.hid hp
      have hnl : decide (p1 ≤ la) = false := by simp; omega
      have HNL := Lib.hid hnl
      clear hx1 hx2 hbl hp hn hnl
      have CP := Lib.hid (CI.out.push _ rfl (.cells #[.int .i64 0, .int .i64 0] 108))
      go_wp2_with (refine wpList_store_bs rfl 108 _ _ rfl CP.out 1 _ _ _ _ rfl rfl rfl infoPt rfl (by simp [Value.oneCell']) ?_; intro w5 hC; have C5 : Hid (Bs w [(w.heap.size, .cells #[.slice (some ⟨b, o, none⟩) c.length cap, .int .i64 parts] 110), (wr.heap.size, .cells #[.int .i64 p1, .int .i64 p2] 108)] w5) := hC; clear hC CP CI hy1 hy2; have hz0 := C5.out.cell 1 rfl 0)
      refine (kout_row false 0 20 [p1] 1 rfl (by simp) (by rw [outB_one, outOne_ff]; have := HPP.out; omega) _ _ rfl _ (heap_alloc_new _ _)).mono ?_
      rintro e w6 ⟨rfl, hb⟩
      have C6 := Lib.hid ((C5.out.alloc _).call hb)
      clear hb C5 hz0
      have hz1 := C6.out.cell 1 rfl 1
      go_wp2_with fail
      refine (kout_row false (-300) 300 [p2] 1 rfl (by simp) (by rw [outB_one, outOne_ff]; have := HPP.out; omega) _ _ rfl _ (heap_alloc_new _ _)).mono ?_
      rintro e w7 ⟨rfl, hb⟩
      have C7 := Lib.hid ((C6.out.alloc _).call hb)
      clear hb C6 hz1
      have hz0 := C7.out.cell 1 rfl 0
      have hnl := HNL.out
      go_wp2_with fail
      refine ⟨⟨i + 1, by push_cast; rfl, by omega, by rw [HLS.out], C7.out.sub [(w.heap.size, .cells #[.slice (some ⟨b, o, none⟩) c.length cap, .int .i64 parts] 110)] (by simp)⟩, ?_⟩
      simp [intOf]; omega
    · obtain rfl : i = c.length := by omega
      go_wp2_with fail
      go_ret
      exact ⟨rfl, CI.out.bel⟩
set_option maxRecDepth 100000 in
set_option maxHeartbeats 16000000 in
theorem bcheck_ok {l : List BWax} (hl : BOk l) (v : Value) (w : World) (hv : BWaxesIn w.heap.size w v l) :
    Calls Tryz.prog 42 #[v] w fun e w' => e = .returned (.tuple #[.int .i64 0, .int .i64 0, .int .i64 0]) ∧ Below w.heap.size w w' := by
  obtain ⟨a, cap, rfl, hcap, -⟩ := sl_shape hv
  have HV := Lib.hid hv
  have HL := Lib.hid hl
  have hn1 := hl.n1
  have hn5 := hl.n5
  clear hv hl
  go_enter Tryz.func42, Tryz.ntmps42
  go_wp2_with fail
  refine (kout_row false 1 5 [(l.length : Int)] 1 rfl (by simp) (by rw [outB_one, outOne_ff]; omega) _ _ rfl _ (heap_alloc_new _ _)).mono ?_
  rintro e w1 ⟨rfl, hb⟩
  have C1 : Hid (Bs w [] w1) := Lib.hid (((Bs.nil w).alloc _).call hb)
  clear hb
  go_wp2_with fail
  go_loopw [13] (fun iv wr => ∃ i : Nat, iv = .int .i64 i ∧ i ≤ l.length ∧ Bs w [] wr) (fun iv _ => l.length - (intOf iv).toNat)
  case atStart => exact ⟨0, rfl, by omega, C1.out⟩
  case round =>
    clear C1
    obtain ⟨i, rfl, hi, hbs⟩ := hrel
    have CI := Lib.hid hbs
    clear hbs
    by_cases hil : i < l.length
    · have hii : (i : Int) < (l.length : Int) := by omega
      obtain ⟨b, o, he, hbl, hx0, hsz, hx1, hx2, hx3, hx4, hx5, cu, hx6, hcu⟩ := HV.out.at' hil
      cases he
      have hic : i ≤ cap := by omega
      have HTK := Lib.hid (HV.out.take i (by omega))
      have HNM := Lib.hid (HL.out.name i hil)
      have HTW := Lib.hid (HL.out.twice i hil)
      have HPR := Lib.hid (HL.out.price i hil)
      have HME := Lib.hid (HL.out.melt i hil)
      have HSH := Lib.hid (HL.out.shrink i hil)
      obtain ⟨ca, cq, rfl, -, -⟩ := sl_shape hcu
      have HCC := fun w h => Lib.hid (ccheck_ok (l.getD i default).curve (HL.out.clen i hil) (HL.out.cpt i hil) (HL.out.cinc i hil) 0 (.slice ca (l.getD i default).curve.length cq) w h)
      have HCU := Lib.hid hcu
      have HLT : Hid ((l.take i).length = i) := by unfold Hid; rw [List.length_take]; omega
      have hy0 := (CI.out.bel.cell (p := ⟨b, o + i * 7, none⟩) hbl).trans hx0
      have hy1 := (CI.out.bel.cell (p := ⟨b, o + i * 7 + 1, none⟩) hbl).trans hx1
      have hy2 := (CI.out.bel.cell (p := ⟨b, o + i * 7 + 2, none⟩) hbl).trans hx2
      have hy3 := (CI.out.bel.cell (p := ⟨b, o + i * 7 + 3, none⟩) hbl).trans hx3
      have hy4 := (CI.out.bel.cell (p := ⟨b, o + i * 7 + 4, none⟩) hbl).trans hx4
      have hy5 := (CI.out.bel.cell (p := ⟨b, o + i * 7 + 5, none⟩) hbl).trans hx5
      have hy6 := (CI.out.bel.cell (p := ⟨b, o + i * 7 + 6, none⟩) hbl).trans hx6
      clear hx0 hx1 hx2 hx3 hx4 hx5 hx6 hbl hcu
      generalize l.take i = tk at *
      generalize l.getD i default = x at *
      have HSZ := Lib.hid hsz
      clear hsz
      have CP := Lib.hid (CI.out.push _ rfl (.cells #[.string ByteArray.empty, .int .i64 0, .int .i64 0, .int .i64 0, .int .i64 0, .int .i64 0, .slice none 0 0] 44))
      go_wp2_with (refine wpList_store_bs rfl 44 _ _ rfl CP.out 0 _ _ _ _ rfl rfl rfl infoBW rfl (by simp [Value.oneCell']) ?_; intro w5 hC; have C5 : Hid (Bs w [(wr.heap.size, .cells #[.string x.name, .int .i64 x.price, .int .i64 x.melt.1, .int .i64 x.melt.2, .int .i64 x.shrink.1, .int .i64 x.shrink.2, .slice ca x.curve.length cq] 44)] w5) := hC; clear hC CP CI hy0 hy1 hy2 hy3 hy4 hy5 hy6; have hz0 := C5.out.cell 0 rfl 0)
      refine (name_r true x.name _ HSZ.out HNM.out).mono ?_
      rintro e w6 ⟨rfl, hb⟩
      have C6 := Lib.hid (C5.out.call hb)
      clear hb C5 hz0
      go_wp2_with fail
      refine (hasBWax_any (some ⟨wr.heap.size, 0, none⟩) false tk (fun y => sameN x.name y.name) _ w6 ((HTK.out.below C6.out.bel).mono C6.out.bel.size) (fun k W _ hW u => sameBW_r _ _ u x.name _ W ((hW.cell (p := ⟨wr.heap.size, 0, none⟩) (C6.out.lt 0 rfl)).trans (C6.out.cell 0 rfl 0)) (Nat.lt_of_lt_of_le (C6.out.lt 0 rfl) hW.size) rfl) HTW.out).mono ?_
      rintro e w7 ⟨rfl, hb⟩
      have C7 := Lib.hid (C6.out.call hb)
      clear hb C6
      have hz1 := C7.out.cell 0 rfl 1
      go_wp2_with fail
      refine (kout_row false 0 100000 [x.price] 1 rfl (by simp) (by rw [outB_one, outOne_ff]; exact HPR.out) _ _ rfl _ (heap_alloc_new _ _)).mono ?_
      rintro e w8 ⟨rfl, hb⟩
      have C8 := Lib.hid ((C7.out.alloc _).call hb)
      clear hb C7
      clear hz1
      have hz2 := C8.out.cell 0 rfl 2
      have hz3 := C8.out.cell 0 rfl 3
      go_wp2_with fail
      refine (kout_row false 0 2000 [x.melt.1, x.melt.2] 2 rfl (by simp) (outB_in (by have := HME.out; simp; omega)) _ _ rfl _ (heap_alloc_new _ _)).mono ?_
      rintro e w9 ⟨rfl, hb⟩
      have C9 := Lib.hid ((C8.out.alloc _).call hb)
      clear hb C8
      clear hz2 hz3
      have hz4 := C9.out.cell 0 rfl 4
      have hz5 := C9.out.cell 0 rfl 5
      go_wp2_with fail
      refine (kout_row false 0 1000 [x.shrink.1, x.shrink.2] 2 rfl (by simp) (outB_in (by have := HSH.out; simp; omega)) _ _ rfl _ (heap_alloc_new _ _)).mono ?_
      rintro e w10 ⟨rfl, hb⟩
      have C10 := Lib.hid ((C9.out.alloc _).call hb)
      clear hb C9
      clear hz4 hz5
      have hz2 := C10.out.cell 0 rfl 2
      have hz3 := C10.out.cell 0 rfl 3
      have hz4 := C10.out.cell 0 rfl 4
      have hz5 := C10.out.cell 0 rfl 5
      have hz6 := C10.out.cell 0 rfl 6
      have hm : decide (x.melt.2 < x.melt.1) = false := by have := HME.out; simp; omega
      have hs : decide (x.shrink.2 < x.shrink.1) = false := by have := HSH.out; simp; omega
      go_wp2_with fail
      refine (HCC _ ((HCU.out.below C10.out.bel).mono C10.out.bel.size)).out.mono ?_
      rintro e w11 ⟨rfl, hb⟩
      have C11 := Lib.hid (C10.out.call hb)
      clear hb C10 hz2 hz3 hz4 hz5 hz6 hm hs
      go_wp2_with fail
      refine ⟨⟨i + 1, by push_cast; rfl, by omega, C11.out.sub [] (by simp)⟩, ?_⟩
      simp [intOf]; omega
    · obtain rfl : i = l.length := by omega
      go_wp2_with fail
      go_ret3
      exact ⟨rfl, CI.out.bel⟩
end Go.Proofs.YtohglbfeahofhaaGreat
