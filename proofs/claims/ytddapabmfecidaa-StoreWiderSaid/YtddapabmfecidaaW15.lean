/- store.Keeps. -/
import Derived.Test.YtddapabmfecidaaW14
namespace Go.Proofs.Ytddapabmfecidaa
open Go.RowKit

def Sea.at (s : Sea) (i d : Nat) : Int × Int := (s.stores.getD i default).warm.getD d (0, 0)
def Sea.safe (s : Sea) (h : Int) (j : List Int) : Bool := decide (h < s.days) && decide (maxTo j 61 - 1 < s.times)
def Sea.hotN (s : Sea) (p : Int × Int) (h : Int) : Int := hotV s.bend h p.2
def Sea.jumpN (s : Sea) (p : Int × Int) (j : List Int) : List Int := nextTo s.jump p.1 (p.2 + 1) j
theorem Sea.jumpN_len (s : Sea) (p : Int × Int) (j : List Int) : (s.jumpN p j).length = 61 := nextTo_len _ _ _ _
theorem Sea.hotN_bound (s : Sea) (p : Int × Int) (h n : Int) (h0 : 0 ≤ h) (hn : h ≤ n) : 0 ≤ s.hotN p h ∧ s.hotN p h ≤ n + 1 := by
  unfold Sea.hotN hotV; split <;> omega

theorem after_good (s : Sea) (hg : Good s) (vs : Value) (day : Nat) (st hot : Int) (j : List Int) (i : Nat) (w : World) (hv : StosIn w.heap.size w vs s.stores)
    (hi : i < s.stores.length) (hd1 : day < s.len) (hj : j.length = 61) (hjs : Small 100 j) (hot0 : 0 ≤ hot) (hot1 : hot ≤ 100) (r : Bool) (hr : s.safe (s.hotN (s.at i day) hot) (s.jumpN (s.at i day) j) = r) :
    Calls Try.prog 42 #[.agg #[.int .i64 s.bend, .int .i64 s.days, .int .i64 s.jump, .int .i64 s.times, .int .i64 s.move, vs], .agg (ints (((day : Int) - 1) :: st :: hot :: j)), .int .i64 i] w
      fun e w' => e = .returned (.tuple #[.agg (ints ((day : Int) :: i :: s.hotN (s.at i day) hot :: s.jumpN (s.at i day) j)), .bool r]) ∧ Below w.heap.size w w' := by
  have h := hg.span i hi day hd1
  subst hr
  have hl := hg.len
  exact after_any s.bend s.days s.jump s.times s.move vs s.stores day st hot j i w hv hi (by rw [hg.lens i hi]; exact hd1) hj hjs hot0 hot1 (by omega) (s.at i day).1 (s.at i day).2 rfl h.1 h.2.2 h.2.1

/-- For how many days candles stay in a store. -/
def keepRun (s : Sea) (i : Nat) : Nat → Nat → Int → List Int → Int
  | 0, _, _, _ => 0
  | f + 1, d, h, j => if s.safe (s.hotN (s.at i d) h) (s.jumpN (s.at i d) j) then 1 + keepRun s i f (d + 1) (s.hotN (s.at i d) h) (s.jumpN (s.at i d) j) else 0
def keepV (s : Sea) (st day : Int) : Int × Int :=
  if (checkV s).2.2 = 0 then (if outB 0 ((s.stores.length : Int) - 1) [st] || outB 0 ((s.len : Int) - 1) [day] then (0, 4) else (keepRun s st.toNat (s.len - day.toNat) day.toNat 0 (List.replicate 61 0), 0))
  else (0, (checkV s).2.2)

structure KW (w wr : World) (b8 : Nat) (S : Array Value) : Prop where
  b0 : wr.heap[w.heap.size]? = some (.cells S 31)
  b1 : wr.heap[b8]? = some (.cells S 75)
  ge : w.heap.size ≤ b8
  bel : Below w.heap.size w wr
theorem KW.call {w wr w' : World} {b8 : Nat} {S : Array Value} (h : KW w wr b8 S) (hb : Below wr.heap.size wr w') : KW w w' b8 S :=
  ⟨block_keep h.b0 hb, block_keep h.b1 hb, h.ge, h.bel.trans (hb.mono h.bel.size)⟩
theorem KW.alloc {w wr : World} {b8 : Nat} {S : Array Value} (h : KW w wr b8 S) (o : Obj) : KW w (wr.alloc o) b8 S :=
  ⟨(heap_alloc_old wr o (block_lt h.b0)).trans h.b0, (heap_alloc_old wr o (block_lt h.b1)).trans h.b1, h.ge, h.bel.alloc h.bel.size o⟩
theorem KW.start {w w1 : World} {S : Array Value} (hb : Below w.heap.size w w1) (h0 : w1.heap[w.heap.size]? = some (.cells S 31)) : KW w (w1.alloc (.cells S 75)) w1.heap.size S :=
  ⟨(heap_alloc_old w1 _ (block_lt h0)).trans h0, heap_alloc_new _ _, hb.size, hb.alloc hb.size _⟩

theorem KW.setRow {w wr : World} {b8 : Nat} {S : Array Value} (h : KW w wr b8 S) (X : Nat) (h8 : b8 ≠ X) (h0 : w.heap.size ≠ X) (hX : w.heap.size ≤ X) (C : Array Value) : KW w (wr.setRow X C) b8 S :=
  ⟨(setRow_other wr _ _ _ h0).trans h.b0, (setRow_other wr _ _ _ h8).trans h.b1, h.ge, below_setRow h.bel hX _⟩
theorem KW.drew {w wr : World} {b8 : Nat} {S : Array Value} (h : KW w wr b8 S) : KW w wr.drew b8 S :=
  ⟨h.b0, h.b1, h.ge, h.bel.drew⟩
theorem small_zero : Small 0 (List.replicate 61 0) := by
  intro i
  rw [List.getD_eq_getElem?_getD, List.getElem?_replicate]
  split <;> simp

set_option maxRecDepth 100000 in
set_option maxHeartbeats 4000000 in
theorem keeps_any (s : Sea) (vs : Value) (st day : Int) (w : World) (hv : StosIn w.heap.size w vs s.stores) :
    Calls Try.prog 18 #[.agg #[.int .i64 s.bend, .int .i64 s.days, .int .i64 s.jump, .int .i64 s.times, .int .i64 s.move, vs], .int .i64 st, .int .i64 day] w
      fun e w' => e = .returned (.tuple #[.int .i64 (keepV s st day).1, .int .i64 (keepV s st day).2]) ∧ Below w.heap.size w w' := by
  have HV := Lib.hid hv
  obtain ⟨a, c, rfl, hll, hlc, hvv⟩ := hv
  have C0 : Hid (Below w.heap.size w (w.alloc (.cells #[.int .i64 s.bend, .int .i64 s.days, .int .i64 s.jump, .int .i64 s.times, .int .i64 s.move, .slice a s.stores.length c] 31))) := (Below.refl _ _).alloc (Nat.le_refl _) _
  have R0 : Hid ((w.alloc (.cells #[.int .i64 s.bend, .int .i64 s.days, .int .i64 s.jump, .int .i64 s.times, .int .i64 s.move, .slice a s.stores.length c] 31)).heap[w.heap.size]? = some (.cells #[.int .i64 s.bend, .int .i64 s.days, .int .i64 s.jump, .int .i64 s.times, .int .i64 s.move, .slice a s.stores.length c] 31)) := heap_alloc_new _ _
  clear hvv
  obtain ⟨e, he⟩ : ∃ e, (checkV s).2.2 = e := ⟨_, rfl⟩
  have HE := Lib.hid he
  clear he
  by_cases hz : e = 0
  · subst hz
    have HC0 : Hid (keepV s st day = if outB 0 ((s.stores.length : Int) - 1) [st] || outB 0 ((s.len : Int) - 1) [day] then (0, 4) else (keepRun s st.toNat (s.len - day.toNat) day.toNat 0 (List.replicate 61 0), 0)) := by unfold Hid keepV; rw [if_pos HE.out]
    have HG := Lib.hid (good_of_ok HE.out)
    have HL1 : Hid (0 < s.stores.length) := by have := HG.out.stores; unfold Hid; omega
    obtain ⟨r1, hr1⟩ : ∃ r, outB 0 ((s.stores.length : Int) - 1) [st] = r := ⟨_, rfl⟩
    obtain ⟨r2, hr2⟩ : ∃ r, outB 0 ((s.len : Int) - 1) [day] = r := ⟨_, rfl⟩
    have HR1 := Lib.hid hr1
    have HR2 := Lib.hid hr2
    clear hr1 hr2
    cases r1
    · go_enter Try.func18, Try.ntmps18
      go_wp2_with fail
      refine (checkS_any s _ _ ((HV.out.below C0.out).mono C0.out.size)).mono ?_
      rintro e w1 ⟨rfl, hbw⟩
      have R1 := Lib.hid (block_keep R0.out hbw)
      have C1 := Lib.hid (C0.out.trans (hbw.mono C0.out.size))
      clear hbw
      rw [HE.out]
      have K1 : Hid (KW w (w1.alloc (.cells #[.int .i64 s.bend, .int .i64 s.days, .int .i64 s.jump, .int .i64 s.times, .int .i64 s.move, .slice a s.stores.length c] 75)) w1.heap.size _) := KW.start C1.out R1.out
      have c1 := fun i => cell_of_row w1 _ i _ _ _ R1.out
      go_wp2_with fail
      refine (out_r _ 0 ((s.stores.length : Int) - 1) _ HR1.out _ _ _ (intsIn_new' _ _ (by simp) [st] (by simp) 1 rfl) (Nat.le_refl _)).mono ?_
      rintro e w2 ⟨rfl, hbw⟩
      have K2 := Lib.hid ((K1.out.alloc _).call hbw)
      clear hbw c1
      have c2 := fun i => cell_of_row w2 _ i _ _ _ K2.out.b1
      go_wp2_with fail
      refine (seaDays_any s _ _ ((HV.out.below K2.out.bel).mono K2.out.bel.size) HL1.out).mono ?_
      rintro e w3 ⟨rfl, hbw⟩
      have K3 := Lib.hid (K2.out.call hbw)
      have hlen := HG.out.len
      clear hbw c2
      have c3 := fun i => cell_of_row w3 _ i _ _ _ K3.out.b1
      go_wp2_with fail
      refine (out_r _ 0 ((s.len : Int) - 1) _ HR2.out _ _ _ (intsIn_new' w3 _ rfl [day] (by simp) 1 rfl) (Nat.le_refl _)).mono ?_
      rintro e w4 ⟨rfl, hbw⟩
      have K4 := Lib.hid ((K3.out.alloc _).call hbw)
      clear hbw c3
      cases r2
      · have HC : Hid (keepV s st day = (keepRun s st.toNat (s.len - day.toNat) day.toNat 0 (List.replicate 61 0), 0)) := by unfold Hid; rw [HC0.out, HR1.out, HR2.out]; rfl
        have hst := outB_false HR1.out st (by simp)
        have hdy := outB_false HR2.out day (by simp)
        obtain ⟨i, rfl⟩ : ∃ i : Nat, st = i := ⟨st.toNat, by omega⟩
        obtain ⟨dy, rfl⟩ : ∃ i : Nat, day = i := ⟨day.toNat, by omega⟩
        have HI : Hid (i < s.stores.length) := by unfold Hid; omega
        have hdl : dy < s.len := by omega
        clear hst hdy HC0
        rw [Int.toNat_natCast, Int.toNat_natCast] at HC
        go_wp2_with fail
        refine (begin_any dy (by omega) w4).mono ?_
        rintro e w5 ⟨rfl, hbw⟩
        have K5 := Lib.hid (K4.out.call hbw)
        clear hbw
        go_wp2_with (refine wpList_store_row rfl 99 _ _ rfl _ (ints (((dy : Int) - 1) :: -1 :: 0 :: List.replicate 61 0)) rfl rfl _ _ (heap_alloc_new _ _) (by rw [ints_size]; exact info99) (by simp [ints_size]) (ints_oneCell _) ?_)
        have K6 : Hid (KW w ((w5.alloc (.cells (ints (List.replicate 64 0)) 99)).setRow w5.heap.size (ints (((dy : Int) - 1) :: -1 :: 0 :: List.replicate 61 0))) w1.heap.size #[.int .i64 s.bend, .int .i64 s.days, .int .i64 s.jump, .int .i64 s.times, .int .i64 s.move, .slice a s.stores.length c]) :=
          (K5.out.alloc _).setRow w5.heap.size (by have := block_lt K5.out.b1; omega) (by have := block_lt K5.out.b0; omega) K5.out.bel.size _
        have R6 : Hid (((w5.alloc (.cells (ints (List.replicate 64 0)) 99)).setRow w5.heap.size (ints (((dy : Int) - 1) :: -1 :: 0 :: List.replicate 61 0))).heap[w5.heap.size]? = some (.cells (ints (((dy : Int) - 1) :: -1 :: 0 :: List.replicate 61 0)) 99)) := setRow_heap _ _ _ _ _ _ (heap_alloc_new _ _)
        have hb59 : w1.heap.size ≠ w5.heap.size := by have := block_lt K5.out.b1; omega
        have hb05 : w.heap.size ≠ w5.heap.size := by have := block_lt K5.out.b0; omega
        have hws : w.heap.size ≤ w5.heap.size := K5.out.bel.size
        refine wp_world (fun wr => KW w wr w1.heap.size #[.int .i64 s.bend, .int .i64 s.days, .int .i64 s.jump, .int .i64 s.times, .int .i64 s.move, .slice a s.stores.length c] ∧ wr.heap[w5.heap.size]? = some (.cells (ints (((dy : Int) - 1) :: -1 :: 0 :: List.replicate 61 0)) 99)) ⟨K6.out, R6.out⟩ ?_
        rintro w6 ⟨hk6, hr6⟩
        have K7 := Lib.hid hk6
        have R7 := Lib.hid hr6
        clear hk6 hr6 K6 R6
        go_loopw [6, 10] (fun n _b wr => ∃ m : Nat, ∃ h stx j, n = .int .i64 m ∧ KW w wr w1.heap.size #[.int .i64 s.bend, .int .i64 s.days, .int .i64 s.jump, .int .i64 s.times, .int .i64 s.move, .slice a s.stores.length c] ∧ wr.heap[w5.heap.size]? = some (.cells (ints ((((dy + m : Nat) : Int) - 1) :: stx :: h :: j)) 99) ∧ j.length = 61 ∧ Small m j ∧ 0 ≤ h ∧ h ≤ m ∧ dy + m ≤ s.len ∧ keepRun s i (s.len - dy) dy 0 (List.replicate 61 0) = m + keepRun s i (s.len - dy - m) (dy + m) h j) (fun n _ _ => 8 - (intOf n).toNat)
        case atStart => exact ⟨0, 0, -1, List.replicate 61 0, rfl, K7.out, R7.out, by simp, small_zero, by omega, by omega, by omega, by simp⟩
        case round =>
          obtain ⟨m, h, stx, j, rfl, hk, hr, hj, hjs, hh0, hh1, hm, hrun⟩ := hrel
          have HK := Lib.hid hk
          have HR := Lib.hid hr
          have HJ := Lib.hid hj
          have HJS := Lib.hid hjs
          have HRUN := Lib.hid hrun
          clear hk hr hj hjs hrun
          by_cases hlt : dy + m < s.len
          · go_wp2_with fail
            refine wp_region_inv0 (by kernel_rfl) (by kernel_rfl) (fun _ w' => KW w w' w1.heap.size #[.int .i64 s.bend, .int .i64 s.days, .int .i64 s.jump, .int .i64 s.times, .int .i64 s.move, .slice a s.stores.length c] ∧ w'.heap[w5.heap.size]? = some (.cells (ints ((((dy + m : Nat) : Int) - 1) :: stx :: h :: j)) 99)) ⟨HK.out.drew, HR.out⟩ ?_
            iterate 3
              (apply obl_det
               case hrun =>
                 intro D y wz hW hD R hR
                 have HRR := Lib.hid hR
                 clear hR hD
                 have HW := Lib.hid hW
                 have cs := fun i => cell_of_row wz _ i _ _ _ hW.1.b1
                 have cx := fun i => cell_of_row wz _ i _ _ _ hW.2
                 clear hW
                 go_wp2
                 exact HRR.out _ HW.out
               case hnp => rfl
               case hv => first | exact ⟨_, fun _ => rfl⟩ | exact ⟨undef, fun _ => rfl⟩)
            apply obl_det
            case hrun =>
              intro D y wz hW hD R hR
              have HRR := Lib.hid hR
              clear hR hD
              have HW := Lib.hid hW
              clear hW
              go_wp2_with (go_at_call 40; refine (seaDays_any s _ _ ((HV.out.below HW.out.1.bel).mono HW.out.1.bel.size) HL1.out).mono ?_; rintro e w' ⟨rfl, hbw⟩)
              exact HRR.out _ ⟨HW.out.1.call hbw, block_keep HW.out.2 hbw⟩
            case hnp => rfl
            case hv => first | exact ⟨_, fun _ => rfl⟩ | exact ⟨undef, fun _ => rfl⟩
            iterate 2
              (apply obl_det
               case hrun =>
                 intro D y wz hW hD R hR
                 have HRR := Lib.hid hR
                 clear hR hD
                 have HW := Lib.hid hW
                 clear hW
                 go_wp2
                 exact HRR.out _ HW.out
               case hnp => rfl
               case hv => first | exact ⟨_, fun _ => rfl⟩ | exact ⟨undef, fun _ => rfl⟩)
            apply obl_nil
            intro D y w8 hall hW
            have HW8 := Lib.hid hW
            clear hW hall
            simp only [Exit.then]
            have c8 := fun i => cell_of_row w8 _ i _ _ _ HW8.out.1.b1
            obtain ⟨r, hr⟩ : ∃ r, s.safe (s.hotN (s.at i (dy + m)) h) (s.jumpN (s.at i (dy + m)) j) = r := ⟨_, rfl⟩
            have HSF := Lib.hid hr
            clear hr
            have HLT := Lib.hid hlt
            have hlen8 := HG.out.len.2
            have hm8 : m ≤ 8 := by omega
            go_wp2_with (refine wpList_load_row rfl 99 _ rfl _ rfl _ _ _ _ HW8.out.2 Try.underlying99 rfl (by rw [ints_size]; simp only [List.length_cons, HJ.out]; exact info99) ?_)
            refine (after_good s HG.out _ (dy + m) stx h j i _ ((HV.out.below HW8.out.1.bel).mono HW8.out.1.bel.size) HI.out HLT.out HJ.out (fun k => ⟨(HJS.out k).1, by have := (HJS.out k).2; omega⟩) hh0 (by omega) r HSF.out).mono ?_
            rintro e w9 ⟨rfl, hbw⟩
            have K9 := Lib.hid (HW8.out.1.call hbw)
            have R9 := Lib.hid (block_keep HW8.out.2 hbw)
            have hhb := s.hotN_bound (s.at i (dy + m)) h m hh0 hh1
            have HJL := Lib.hid (s.jumpN_len (s.at i (dy + m)) j)
            have HJN : Hid (Small ((m + 1 : Nat) : Int) (s.jumpN (s.at i (dy + m)) j)) := nextTo_small HJS.out (by omega) _ _ _
            clear hbw c8
            generalize hh' : s.hotN (s.at i (dy + m)) h = h' at *
            generalize hj' : s.jumpN (s.at i (dy + m)) j = j' at *
            cases r
            · have HKR : Hid (keepRun s i (s.len - dy) dy 0 (List.replicate 61 0) = m) := by
                unfold Hid
                rw [HRUN.out, show s.len - dy - m = (s.len - dy - m - 1) + 1 by omega, keepRun, hh', hj', HSF.out]
                simp
              clear hh' hj'
              go_wp2_with (refine wpList_store_row rfl 99 _ _ rfl _ (ints (((dy + m : Nat) : Int) :: i :: h' :: j')) rfl rfl _ _ R9.out (by rw [ints_size]; simp only [List.length_cons, HJL.out]; exact info99) (by simp [ints_size, HJ.out, HJL.out]) (ints_oneCell _) ?_)
              go_ret2
              exact ⟨by rw [HC.out, HKR.out]; rfl, (K9.out.setRow _ hb59 hb05 hws _).bel⟩
            · have HKR : Hid (keepRun s i (s.len - dy) dy 0 (List.replicate 61 0) = ((m + 1 : Nat) : Int) + keepRun s i (s.len - dy - (m + 1)) (dy + (m + 1)) h' j') := by
                unfold Hid
                rw [HRUN.out, show s.len - dy - m = (s.len - dy - m - 1) + 1 by omega, keepRun, hh', hj', HSF.out, show s.len - dy - m - 1 = s.len - dy - (m + 1) by omega, show dy + m + 1 = dy + (m + 1) by omega]
                simp only [if_true]
                omega
              clear hh' hj'
              go_wp2_with (refine wpList_store_row rfl 99 _ _ rfl _ (ints (((dy + m : Nat) : Int) :: i :: h' :: j')) rfl rfl _ _ R9.out (by rw [ints_size]; simp only [List.length_cons, HJL.out]; exact info99) (by simp [ints_size, HJ.out, HJL.out]) (ints_oneCell _) ?_)
              go_roundw
              case rel => exact ⟨m + 1, h', i, j', by go_num, K9.out.setRow _ hb59 hb05 hws _, by rw [show (((dy + (m + 1) : Nat) : Int) - 1) = ((dy + m : Nat) : Int) by omega]; exact setRow_heap _ _ _ _ _ _ R9.out, HJL.out, HJN.out, hhb.1, by omega, by omega, HKR.out⟩
              case measure => simp [intOf]; omega
          · have HKR : Hid (keepRun s i (s.len - dy) dy 0 (List.replicate 61 0) = m) := by unfold Hid; rw [HRUN.out, show s.len - dy - m = 0 by omega]; simp [keepRun]
            go_wp2_with fail
            refine wp_region_inv0 (by kernel_rfl) (by kernel_rfl) (fun _ w' => KW w w' w1.heap.size #[.int .i64 s.bend, .int .i64 s.days, .int .i64 s.jump, .int .i64 s.times, .int .i64 s.move, .slice a s.stores.length c] ∧ w'.heap[w5.heap.size]? = some (.cells (ints ((((dy + m : Nat) : Int) - 1) :: stx :: h :: j)) 99)) ⟨HK.out.drew, HR.out⟩ ?_
            iterate 3
              (apply obl_det
               case hrun =>
                 intro D y wz hW hD R hR
                 have HRR := Lib.hid hR
                 clear hR hD
                 have HW := Lib.hid hW
                 have cs := fun i => cell_of_row wz _ i _ _ _ hW.1.b1
                 have cx := fun i => cell_of_row wz _ i _ _ _ hW.2
                 clear hW
                 go_wp2
                 exact HRR.out _ HW.out
               case hnp => rfl
               case hv => first | exact ⟨_, fun _ => rfl⟩ | exact ⟨undef, fun _ => rfl⟩)
            apply obl_det
            case hrun =>
              intro D y wz hW hD R hR
              have HRR := Lib.hid hR
              clear hR hD
              have HW := Lib.hid hW
              clear hW
              go_wp2_with (go_at_call 40; refine (seaDays_any s _ _ ((HV.out.below HW.out.1.bel).mono HW.out.1.bel.size) HL1.out).mono ?_; rintro e w' ⟨rfl, hbw⟩)
              exact HRR.out _ ⟨HW.out.1.call hbw, block_keep HW.out.2 hbw⟩
            case hnp => rfl
            case hv => first | exact ⟨_, fun _ => rfl⟩ | exact ⟨undef, fun _ => rfl⟩
            iterate 2
              (apply obl_det
               case hrun =>
                 intro D y wz hW hD R hR
                 have HRR := Lib.hid hR
                 clear hR hD
                 have HW := Lib.hid hW
                 clear hW
                 go_wp2
                 exact HRR.out _ HW.out
               case hnp => rfl
               case hv => first | exact ⟨_, fun _ => rfl⟩ | exact ⟨undef, fun _ => rfl⟩)
            apply obl_nil
            intro D y w8 hall hW
            have HW8 := Lib.hid hW
            clear hW hall
            simp only [Exit.then]
            go_wp2_with fail
            go_ret2
            exact ⟨by rw [HC.out, HKR.out]; rfl, HW8.out.1.bel⟩
      · have HC : Hid (keepV s st day = (0, 4)) := by unfold Hid; rw [HC0.out, HR1.out, HR2.out]; rfl
        go_wp2_with fail
        go_ret2
        exact ⟨by rw [HC.out]; rfl, K4.out.bel⟩
    · have HC : Hid (keepV s st day = (0, 4)) := by unfold Hid; rw [HC0.out, HR1.out]; rfl
      go_enter Try.func18, Try.ntmps18
      go_wp2_with fail
      refine (checkS_any s _ _ ((HV.out.below C0.out).mono C0.out.size)).mono ?_
      rintro e w1 ⟨rfl, hbw⟩
      have R1 := Lib.hid (block_keep R0.out hbw)
      have C1 := Lib.hid (C0.out.trans (hbw.mono C0.out.size))
      clear hbw
      rw [HE.out]
      have K1 : Hid (KW w (w1.alloc (.cells #[.int .i64 s.bend, .int .i64 s.days, .int .i64 s.jump, .int .i64 s.times, .int .i64 s.move, .slice a s.stores.length c] 75)) w1.heap.size _) := KW.start C1.out R1.out
      have c1 := fun i => cell_of_row w1 _ i _ _ _ R1.out
      go_wp2_with fail
      refine (out_r _ 0 ((s.stores.length : Int) - 1) _ HR1.out _ _ _ (intsIn_new' _ _ (by simp) [st] (by simp) 1 rfl) (Nat.le_refl _)).mono ?_
      rintro e w2 ⟨rfl, hbw⟩
      have K2 := Lib.hid ((K1.out.alloc _).call hbw)
      clear hbw c1
      go_wp2_with fail
      go_ret2
      exact ⟨by rw [HC.out]; rfl, K2.out.bel⟩
  · have HC : Hid (keepV s st day = (0, e)) := by unfold Hid keepV; rw [HE.out, if_neg hz]
    go_enter Try.func18, Try.ntmps18
    go_wp2_with fail
    refine (checkS_any s _ _ ((HV.out.below C0.out).mono C0.out.size)).mono ?_
    rintro e' w1 ⟨rfl, hbw⟩
    have C1 := Lib.hid (C0.out.trans (hbw.mono C0.out.size))
    clear hbw
    rw [HE.out]
    have hzz : (e != 0) = true := by simpa using hz
    clear hz
    go_wp2_with fail
    go_ret2
    exact ⟨by rw [HC.out]; rfl, C1.out⟩
end Go.Proofs.Ytddapabmfecidaa
