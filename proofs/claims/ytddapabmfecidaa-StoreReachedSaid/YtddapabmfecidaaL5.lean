/- StoreReached: the walk. -/
import Derived.Test.YtddapabmfecidaaAW
import Derived.Test.YtddapabmfecidaaP4
import Derived.Test.YtddapabmfecidaaH3
import Derived.Test.YtddapabmfecidaaW25
import Derived.BigQuiet
import Derived.Lib.MinMax
namespace Go.Proofs.Ytddapabmfecidaa
open Go.RowKit
theorem warmL_rev (s : Sea) (way : List Int) : ∀ k, (warmL s way k).reverse = rl s way k
  | 0 => rfl
  | k + 1 => by rw [warmL, List.reverse_append, warmL_rev s way k]; rfl
def hiL (s : Sea) (way : List Int) (k : Nat) : List Int := (warmL s way k).map (·.2)
theorem hiL_succ (s : Sea) (way : List Int) (k : Nat) : hiL s way (k + 1) = hiL s way k ++ [(s.at (way.getD k 0).toNat k).2] := by simp [hiL, warmL]
theorem hiL_len (s : Sea) (way : List Int) (k : Nat) : (hiL s way k).length = k := by simp [hiL, warmL_len]
theorem warmL_get (s : Sea) (way : List Int) : ∀ n k, k < n → (warmL s way n).getD k (0, 0) = s.at (way.getD k 0).toNat k := warmL_at s way
theorem hiL_mr (s : Sea) (way : List Int) (n : Nat) : mr s.bend (revTake (hiL s way n) n) = MV s.bend (rl s way n) := by
  have h := revTake_rev (hiL s way n)
  rw [hiL_len] at h
  rw [h, hiL, ← List.map_reverse, warmL_rev, mr_hi]
theorem hiL_at (s : Sea) (way : List Int) (n k : Nat) (hk : k < n) : (hiL s way n).getD k 0 = (s.at (way.getD k 0).toNat k).2 := by
  have := warmL_at s way n k hk
  unfold hiL
  rw [List.getD_eq_getElem?_getD] at this ⊢
  rw [List.getElem?_map]
  rw [List.getElem?_eq_getElem (by rw [warmL_len]; exact hk)] at this ⊢
  simp at this ⊢
  rw [this]
theorem ownsRow_fresh (w : World) : (w.alloc (.cells #[] 3)).ownsRow w.heap.size 3 1 (.slice (some ⟨w.heap.size, 0, none⟩) 0 0) 0 [] :=
  ⟨rfl, .inr ⟨w.heap.size, 0, #[], rfl, Nat.le_refl _, heap_alloc_new _ _, Nat.le_refl _, Nat.zero_le _, rfl, rfl⟩⟩
theorem add_flat1 {g o j : Nat} : ((⟨g, o, none⟩ : Addr).add j) = ⟨g, o + j, none⟩ := by unfold Addr.add; split <;> simp_all
theorem setCell_in {w : World} {b : Nat} {cs : Array Value} {t : TypeId} (h : w.heap[b]? = some (.cells cs t)) (i : Nat) (u : Value) : (w.setCell ⟨b, i, none⟩ u).heap[b]? = some (.cells (cs.setIfInBounds i u) t) := by
  simp only [World.setCell, Array.getElem?_modify, if_true, h]; simp
/-- A row of ints of which one is written. -/
theorem intsIn_set {w : World} {g n cap k : Nat} {cur : Array Value} {L : List Int} {X : Int} (hg : w.heap[g]? = some (.cells (cur.setIfInBounds k (.int .i64 X)) 3)) (ht : cur.toList.take n = L.map (Value.int .i64)) (hl : L.length = n) (hk : k < n) (hn : n ≤ 1000) : IntsIn .i64 w.heap.size w (.slice (some ⟨g, 0, none⟩) n cap) (L.set k X) := by
  refine ⟨_, cap, by rw [List.length_set, hl], by rw [List.length_set]; omega, .inr ⟨g, 0, rfl, block_lt hg, fun i hi => ?_⟩⟩
  rw [List.length_set, hl] at hi
  rw [cell_of_row w g _ _ _ _ hg, Nat.zero_add, Array.getElem?_setIfInBounds, List.getD_eq_getElem?_getD, List.getElem?_set]
  have hc := congrArg (·[i]?) ht
  simp only [List.getElem?_take] at hc
  rw [if_pos hi, Array.getElem?_toList, List.getElem?_map] at hc
  have hci : i < cur.size := by
    rcases Nat.lt_or_ge i cur.size with h | h
    · exact h
    · rw [Array.getElem?_eq_none h, List.getElem?_eq_getElem (by omega)] at hc; cases hc
  by_cases hki : k = i
  · subst hki
    rw [if_pos rfl, if_pos hci, if_pos rfl, if_pos (by omega)]
    rfl
  · rw [if_neg hki, if_neg hki, hc, List.getElem?_eq_getElem (by omega)]
    rfl
theorem two_allocs (w : World) (a b : Obj) : ((w.alloc a).alloc b).heap[w.heap.size]? = some a ∧ ((w.alloc a).alloc b).heap[w.heap.size + 1]? = some b := by
  refine ⟨(Below.heap_alloc (w.alloc a) b _ (by simp)).trans (heap_alloc_new w a), ?_⟩
  have := heap_alloc_new (w.alloc a) b
  rwa [World.size_alloc] at this
set_option maxRecDepth 100000 in
set_option maxHeartbeats 4000000 in
theorem reached_any (s : Sea) (vs wv : Value) (way : List Int) (x0 x1 : Int) (hx0 : 0 ≤ x0 ∧ x0 ≤ 255) (hx1 : 0 ≤ x1 ∧ x1 ≤ 255) (w : World) (hv : StosIn w.heap.size w vs s.stores) (hw : IntsIn .i64 w.heap.size w wv way) :
    Calls Try.prog 5 #[.agg #[.int .i64 s.bend, .int .i64 s.days, .int .i64 s.jump, .int .i64 s.times, .int .i64 s.move, vs], wv, .agg #[.int .u8 x0, .int .u8 x1]] w (fun e w' => e = .returned (.bool true) ∧ Below w.heap.size w w') := by
  have HV := Lib.hid hv
  have HWV := Lib.hid hw
  clear hv
  have hboth := two_allocs w (.cells #[.int .i64 s.bend, .int .i64 s.days, .int .i64 s.jump, .int .i64 s.times, .int .i64 s.move, vs] 31) (.cells #[.int .u8 x0, .int .u8 x1] 47)
  have C0 : Hid (Below w.heap.size w ((w.alloc (.cells #[.int .i64 s.bend, .int .i64 s.days, .int .i64 s.jump, .int .i64 s.times, .int .i64 s.move, vs] 31)).alloc (.cells #[.int .u8 x0, .int .u8 x1] 47))) := ((Below.refl _ _).alloc (Nat.le_refl _) _).alloc (by simp) _
  have R0 := Lib.hid hboth.1
  have X0 := Lib.hid hboth.2
  clear hboth
  obtain ⟨x, hx⟩ : ∃ x, riskV s way = x := ⟨_, rfl⟩
  have hxe := riskV_err s way
  rw [hx] at hxe
  obtain ⟨h, j, e⟩ := x
  have HX := Lib.hid hx
  have HXE := Lib.hid hxe
  clear hx hxe
  obtain ⟨aw, cw, rfl, hwl, -⟩ := hw
  go_enter Try.func5, Try.ntmps5
  go_wp2_with fail
  refine (risks_any s _ _ way _ ((HV.out.below C0.out).mono C0.out.size) ((HWV.out.below C0.out).mono C0.out.size)).mono ?_
  rintro e' w1 ⟨rfl, hbw⟩
  have C1 := Lib.hid (C0.out.trans (hbw.mono C0.out.size))
  have R1 := Lib.hid (block_keep R0.out hbw)
  have X1 := Lib.hid (block_keep X0.out hbw)
  clear hbw C0 R0 X0
  rw [HX.out]
  have cs1 := fun i => cell_of_row w1 _ i _ _ _ R1.out
  go_wp2_with fail
  clear cs1
  refine (show_any s vs _ way _ ((HV.out.below C1.out).mono C1.out.size) ((HWV.out.below C1.out).mono C1.out.size)).mono ?_
  rintro e' w2 ⟨lv, rfl, hli, -, hbw⟩
  have C2 := Lib.hid (C1.out.trans (hbw.mono C1.out.size))
  have R2 := Lib.hid (block_keep R1.out hbw)
  have X2 := Lib.hid (block_keep X1.out hbw)
  clear hbw C1 R1 X1
  by_cases hz : e = 0
  · subst hz
    have he : openE s way = 0 := HXE.out.symm
    have HE := Lib.hid he
    have hoo := openE_ok he
    have HG := Lib.hid (good_of_ok hoo.1)
    have hwo := way_ok hoo.2
    have HWO := Lib.hid hwo
    have hsok : s.ok = true := by unfold Sea.ok; rw [hoo.1]; rfl
    have HWE : Hid (wayE s way = 0) := hoo.2
    have hst := HG.out.stores
    have hl8 := HG.out.len.2
    have hw1 := hwo.1
    have hw2 := hwo.2.1
    have hsv : showV s way = ((showSt s way way.length).1, 0) := by unfold showV; rw [if_pos he]
    have HSH := Lib.hid (shown_ok HG.out hwo.2.1 hwo.2.2 (by omega))
    rw [hsv] at hli ⊢
    generalize (showSt s way way.length).1 = L at *
    obtain ⟨n, hn⟩ : ∃ n, way.length = n := ⟨_, rfl⟩
    have HN := Lib.hid hn
    have hLn : L.length = n := by rw [HSH.out.len, hn]
    have HLN := Lib.hid hLn
    have HLI := Lib.hid hli
    rw [hn] at hw1 hw2 hwl
    obtain ⟨al, cl, rfl, hll, -⟩ := hli
    rw [hLn] at hll HLI ⊢
    rw [hn] at HWV ⊢
    clear hoo hwo he hsv hn hLn hll
    have cs2 := fun i => cell_of_row w2 _ i _ _ _ R2.out
    go_wp2_with fail
    refine (valid_any s vs _ ((HV.out.below C2.out).mono C2.out.size) _ hsok).mono ?_
    rintro e' w3 ⟨rfl, hbw⟩
    have C3 := Lib.hid (C2.out.trans (hbw.mono C2.out.size))
    have R3 := Lib.hid (block_keep R2.out hbw)
    have X3 := Lib.hid (block_keep X2.out hbw)
    have HLI3 := Lib.hid (HLI.out.next hbw)
    clear hbw C2 R2 X2 cs2 HLI
    have cs3 := fun i => cell_of_row w3 _ i _ _ _ R3.out
    go_wp2_with fail
    refine (way_any s vs _ way _ ((HV.out.below C3.out).mono C3.out.size) (by omega) ((HWV.out.below C3.out).mono C3.out.size)).mono ?_
    rintro e' w4 ⟨rfl, hbw⟩
    have C4 := Lib.hid (C3.out.trans (hbw.mono C3.out.size))
    have R4 := Lib.hid (block_keep R3.out hbw)
    have X4 := Lib.hid (block_keep X3.out hbw)
    have HLI4 := Lib.hid (HLI3.out.next hbw)
    clear hbw C3 R3 X3 cs3 HLI3
    rw [HWE.out]
    have cs4 := fun i => cell_of_row w4 _ i _ _ _ R4.out
    go_wp2_with fail
    refine (warm_any s HG.out vs _ way (by rw [(HN.out : way.length = n)]; exact hw2) HWO.out.2.2 _ ((HV.out.below C4.out).mono C4.out.size) ((HWV.out.below C4.out).mono C4.out.size)).mono ?_
    rintro e' w5 ⟨sv, rfl, hsp, hbw⟩
    have C5 := Lib.hid (C4.out.trans (hbw.mono C4.out.size))
    have R5 := Lib.hid (block_keep R4.out hbw)
    have X5 := Lib.hid (block_keep X4.out hbw)
    have HLI5 := Lib.hid (HLI4.out.next hbw)
    clear hbw C4 R4 X4 cs4 HLI4
    have HSP := Lib.hid hsp
    obtain ⟨asp, csp, rfl, -, hscl, -⟩ := hsp
    rw [warmL_len, (HN.out : way.length = n)] at HSP hscl ⊢
    have hnn : ((n : Int) != (n : Int)) = false := by simp
    go_wp2_with fail
    clear hnn
    go_loopw [13, 14] (fun lv kv wr => ∃ (k : Nat) (av : Option Addr) (cv : Nat), kv = .int .i64 k ∧ k ≤ n ∧ lv = .slice av k cv ∧ wr.ownsRow w5.heap.size 3 1 (.slice av k cv) k ((hiL s way k).map (Value.int .i64)) ∧ Below w5.heap.size w5 wr) (fun _ kv _ => n - (intOf kv).toNat)
    case atStart => exact ⟨0, none, 0, rfl, by omega, rfl, ⟨rfl, .inl ⟨rfl, rfl⟩⟩, Below.refl _ _⟩
    case round =>
      obtain ⟨k, av, cv, rfl, hk, rfl, ho, hb⟩ := hrel
      have CB := Lib.hid hb
      have HO := Lib.hid ho
      clear hb ho
      by_cases hlt : k < n
      · have hin := HSH.out.inSp k (by have := (HN.out : way.length = n); omega)
        have hok := at_ok HG.out HWO.out.2.1 HWO.out.2.2 (k := k) (by have := (HN.out : way.length = n); omega)
        have HSU : Hid (hiL s way (k + 1) = hiL s way k ++ [(s.at (way.getD k 0).toNat k).2]) := hiL_succ s way k
        obtain ⟨bm, om, cm, hsl, hmc, hbm, hm1, hm2⟩ := (HSP.out.below CB.out).at (i := k) (by rw [warmL_len]; exact hlt)
        rw [warmL_len] at hsl hmc
        simp only [Value.slice.injEq] at hsl
        obtain ⟨rfl, -, rfl⟩ := hsl
        rw [warmL_at s way n k hlt] at hm1 hm2
        have hsw : spW s way k = s.at (way.getD k 0).toNat k := rfl
        rw [hsw] at hin
        clear hsw
        generalize s.at (way.getD k 0).toNat k = p at *
        obtain ⟨lo, hi⟩ := p
        simp only at hm1 hm2 hok hin HSU
        obtain ⟨al', cl', hvv, _, hcc⟩ := HLI5.out.below CB.out
        have hln := (HLN.out : L.length = n)
        rw [hln] at hvv
        simp only [Value.slice.injEq] at hvv
        obtain ⟨rfl, -, rfl⟩ := hvv
        obtain ⟨bl, ol, rfl, hbl, hcl⟩ := hcc.resolve_left (by intro h; rw [h] at hln; simp at hln; omega)
        have hlk := hcl k (by omega)
        clear hcc hcl hln
        obtain ⟨x, hx⟩ : ∃ x, L.getD k 0 = x := ⟨_, rfl⟩
        rw [hx] at hlk hin
        clear hx
        have hq1 : decide (x < lo) = false := decide_eq_false (by omega)
        have hq2 : decide (hi < x) = false := decide_eq_false (by omega)
        have hb1 : w5.heap.size ≤ wr.heap.size := CB.out.size
        go_upto_region 12 with fail
        go_quiet (fail)
        simp only [Exit.then]
        go_upto_region 14 with fail
        refine wp_world (fun wq => Below w5.heap.size w5 wq ∧ wq.ownsRow w5.heap.size 3 1 (.slice av k cv) k ((hiL s way k).map (Value.int .i64)) ∧ ∀ b o, wq.cell? ⟨b, o, none⟩ = wr.cell? ⟨b, o, none⟩) ⟨⟨CB.out.os, CB.out.tape, CB.out.output, CB.out.size, CB.out.block⟩, HO.out, fun _ _ => rfl⟩ ?_
        intro wq hwq
        have CQ := Lib.hid hwq.1
        have HOQ := Lib.hid hwq.2.1
        have hcq := hwq.2.2
        clear hwq
        have hbq : w5.heap.size ≤ wq.heap.size := CQ.out.size
        obtain ⟨i0, hi0, hz0, hz1, hz2⟩ := i64info
        go_wp2_with (at_builtin; refine wpList_append_own _ rfl _ _ 33 rfl w5.heap.size 3 i0 (.int .i64 0) 1 8 Try.underlying33 hi0 hz0 hz1 hz2 rfl (by decide) _ _ _ rfl (HOQ.out.alloc _) ⟨wq.heap.size, 0, none⟩ 1 1 [.int .i64 hi] rfl rfl (cell_one_new _ _ _) (fun x hx => by simp at hx; subst hx; rfl) (by unfold maxLen; omega) (by omega) (by simp; omega) ?_; intro v' w12 hown12 hgrow12 _)
        have hlt12 := World.ownsRow.lt HOQ.out
        have CB8 := Lib.hid ((CQ.out.alloc CQ.out.size (.cells #[.int .i64 hi] 3)).grown hgrow12 (by simp only [World.size_alloc]; omega) (fun k e => (hlt12 k e).1))
        obtain ⟨av', cv', rfl⟩ := ownsRow_slice1 hown12
        have HO8 := Lib.hid hown12
        clear hown12 hgrow12 hcq
        go_wp2_with fail
        refine ⟨⟨k + 1, av', cv', by push_cast; rfl, by omega, rfl, by rw [HSU.out, List.map_append]; exact HO8.out, CB8.out⟩, ?_⟩
        simp [intOf]
        omega
      · obtain rfl : n = k := by omega
        have HHL : Hid (wr.ownsRow w5.heap.size 3 1 (.slice av n cv) (hiL s way n).length ((hiL s way n).map (Value.int .i64))) := by unfold Hid; rw [hiL_len]; exact HO.out
        have HHI := Lib.hid (ownsRow_ints HHL.out (by rw [hiL_len]; omega)).1
        have D5 := Lib.hid (C5.out.trans (CB.out.mono C5.out.size))
        have R6 := Lib.hid (block_keep R5.out (CB.out))
        have X6 := Lib.hid (block_keep X5.out (CB.out))
        have HLI6 := Lib.hid (HLI5.out.next CB.out)
        have HSP6 := Lib.hid ((HSP.out.below CB.out).mono CB.out.size)
        clear HO HHL CB HLI5 HSP R5 X5 C5
        have cs6 := fun i => cell_of_row wr _ i _ _ _ R6.out
        go_wp2_with fail
        have hlen := (HN.out : way.length = n)
        have hc := counted_any s.bend s.days s.jump s.times (hiL s way n) (.slice av n cv) wr HHI.out (by rw [hiL_len]; omega) (by
          intro k hk
          rw [hiL_len] at hk
          rw [hiL_at s way n k hk]
          have := at_ok HG.out HWO.out.2.1 HWO.out.2.2 (k := k) (by omega)
          omega)
        rw [hiL_len, hiL_mr] at hc
        have hrk := riskV_ok HE.out
        rw [HX.out, hlen] at hrk
        simp only [Prod.mk.injEq, and_true] at hrk
        rw [← hrk.1] at hc
        refine hc.mono ?_
        rintro e' w7 ⟨rfl, hbw⟩
        have D7 := Lib.hid (D5.out.trans (hbw.mono D5.out.size))
        have R7 := Lib.hid (block_keep R6.out hbw)
        have X7 := Lib.hid (block_keep X6.out hbw)
        have HLI7 := Lib.hid (HLI6.out.next hbw)
        have HSP7 := Lib.hid ((HSP6.out.below hbw).mono hbw.size)
        clear hbw hc D5 R6 X6 HLI6 HSP6 HHI cs6
        have cs7 := fun i => cell_of_row w7 _ i _ _ _ R7.out
        have hin : ∀ d, d < n → (spW s way d).1 ≤ L.getD d 0 ∧ L.getD d 0 ≤ (spW s way d).2 := fun d hd => HSH.out.inSp d (by omega)
        have hL60 : ∀ k, k < L.length → 0 ≤ L.getD k 0 ∧ L.getD k 0 ≤ 60 := fun k hk => (HSH.out.pos k (by rw [HLN.out] at hk; omega)).1
        have HJL : Hid (jr s.jump (revTake L n) = j) := by
          unfold Hid
          have h1 := revTake_rev L
          rw [HLN.out] at h1
          rw [h1, jr_reverse, HSH.out.jumps HG.out HWO.out.2.1 HWO.out.2.2 (by omega), hrk.2, hlen]
        go_wp2_with fail
        have hc := counted_any s.bend s.days s.jump s.times L (.slice al n cl) w7 HLI7.out (by rw [HLN.out]; omega) hL60
        rw [HLN.out, HJL.out] at hc
        refine hc.mono ?_
        rintro e' w8 ⟨rfl, hbw⟩
        have D8 := Lib.hid (D7.out.trans (hbw.mono D7.out.size))
        have R8 := Lib.hid (block_keep R7.out hbw)
        have X8 := Lib.hid (block_keep X7.out hbw)
        have HLI8 := Lib.hid (HLI7.out.next hbw)
        have HSP8 := Lib.hid ((HSP7.out.below hbw).mono hbw.size)
        clear hbw hc D7 R7 X7 HLI7 HSP7 cs7 hL60
        generalize mr s.bend (revTake L n) = mL at *
        obtain ⟨k, hk, hkn⟩ : ∃ k : Nat, (x0 % (n : Int)) = k ∧ k < n := by
          have h1 := Int.emod_nonneg x0 (show (n : Int) ≠ 0 by omega)
          have h2 := Int.emod_lt_of_pos x0 (show (0 : Int) < n by omega)
          exact ⟨(x0 % (n : Int)).toNat, by omega, by omega⟩
        have HK := Lib.hid hk
        have hwz : ((n : Int) == 0) = false := beq_eq_false_iff_ne.2 (by omega)
        have hm0 : 0 ≤ x0 % (n : Int) := by omega
        have hm1 : x0 % (n : Int) < (n : Int) := by omega
        have cx8 := fun i => cell_of_row w8 _ i _ _ _ X8.out
        clear hk
        go_upto_region 18 with fail
        have hkk : (x0 % (n : Int)) = (k : Int) := HK.out
        rw [hkk]
        clear hkk hm0 hm1
        obtain ⟨al', cl', hvv, _, hcc⟩ := HLI8.out
        rw [HLN.out] at hvv
        simp only [Value.slice.injEq] at hvv
        obtain ⟨rfl, -, rfl⟩ := hvv
        obtain ⟨bl, ol, rfl, hbl, hcl⟩ := hcc.resolve_left (by intro h; have := HLN.out; rw [h] at this; simp at this; omega)
        rw [HLN.out] at hcl
        clear hcc
        obtain ⟨i0, hi0, hz0, hz1, hz2⟩ := i64info
        have hmap : (L.map (Value.int .i64)).length = n := by rw [List.length_map]; exact HLN.out
        have hnews : ∀ (j : Nat) u, (L.map (Value.int .i64))[j]? = some u → (w8.alloc (.cells #[] 3)).cell? ((⟨bl, ol, none⟩ : Addr).add j) = some u := by
          intro j u hj
          have hjn : j < n := by rw [← hmap]; exact (List.getElem?_eq_some_iff.1 hj).1
          rw [add_flat1, ← hj, List.getElem?_map]
          have := (((Below.refl w8.heap.size w8).alloc (Nat.le_refl _) (.cells #[] 3)).cell (p := ⟨bl, ol + j, none⟩) hbl).trans (hcl j hjn)
          rw [this, List.getD_eq_getElem?_getD, List.getElem?_eq_getElem (by rw [HLN.out]; exact hjn)]
          rfl
        go_wp2_with (at_builtin; refine wpList_append_own _ rfl _ _ 33 rfl w8.heap.size 3 i0 (.int .i64 0) 1 8 Try.underlying33 hi0 hz0 hz1 hz2 rfl (by decide) _ _ _ rfl (ownsRow_fresh w8) ⟨bl, ol, none⟩ n cl (L.map (Value.int .i64)) rfl (by rw [hmap]; omega) hnews (fun u hu => by obtain ⟨z, -, rfl⟩ := List.mem_map.1 hu; rfl) (by unfold maxLen; omega) (by omega) (by simp) ?_; intro v' w12 hown12 hgrow12 _)
        have hlt12 := World.ownsRow.lt (ownsRow_fresh w8)
        have CB12 := Lib.hid (((Below.refl w8.heap.size w8).alloc (Nat.le_refl _) (.cells #[] 3)).grown hgrow12 (by simp) (fun k e => (hlt12 k e).1))
        rw [Nat.zero_add, List.nil_append] at hown12
        obtain ⟨-, hown12⟩ := hown12
        rcases hown12 with ⟨-, h0⟩ | ⟨g, cap, cur, rfl, hgb, hg, hncap, hcmax, hcsz, htake⟩
        · omega
        have HG12 := Lib.hid hg
        have D12 := Lib.hid (D8.out.trans (CB12.out.mono D8.out.size))
        have R12 := Lib.hid (block_keep R8.out CB12.out)
        have X12 := Lib.hid (block_keep X8.out CB12.out)
        have hlk : w12.cell? ⟨bl, ol + k, none⟩ = some (.int .i64 (L.getD k 0)) := (CB12.out.cell (p := ⟨bl, ol + k, none⟩) hbl).trans (hcl k hkn)
        have hink := hin k hkn
        have hok := at_ok HG.out HWO.out.2.1 HWO.out.2.2 (k := k) (by omega)
        have hsw : spW s way k = s.at (way.getD k 0).toNat k := rfl
        rw [hsw] at hink
        obtain ⟨bm, om, cm, hsl, hmc, hbm, hm1, hm2⟩ := (HSP8.out.below CB12.out).at (i := k) (by rw [warmL_len]; exact hkn)
        rw [warmL_len] at hsl hmc
        simp only [Value.slice.injEq] at hsl
        obtain ⟨rfl, -, rfl⟩ := hsl
        rw [warmL_at s way n k hkn] at hm1 hm2
        have HLESS : Hid (∀ x, (s.at (way.getD k 0).toNat k).1 ≤ x → x < L.getD k 0 → jr s.jump (L.set k x) < JM s.jump (rl s way n)) := by
          intro x h1 h2
          rw [← hlen]
          exact HSH.out.less HG.out HWO.out.2.1 HWO.out.2.2 (by omega) (by omega) h1 h2
        generalize s.at (way.getD k 0).toNat k = p at *
        obtain ⟨lo, hi⟩ := p
        simp only at hm1 hm2 hok hink HLESS
        have HLK : Hid (∀ d, (L.set k (L.getD k 0)).getD d 0 = L.getD d 0) := by
          intro d
          rw [List.getD_eq_getElem?_getD, List.getD_eq_getElem?_getD, List.getElem?_set]
          split
          · rename_i hh; subst hh; rw [if_pos (by rw [HLN.out]; exact hkn), List.getD_eq_getElem?_getD]; rw [List.getElem?_eq_getElem (by rw [HLN.out]; exact hkn)]; rfl
          · rfl
        obtain ⟨x, hx⟩ : ∃ x, L.getD k 0 = x := ⟨_, rfl⟩
        rw [hx] at hlk hink HLESS
        have HXK := Lib.hid hx
        clear hx hsw hgrow12 hcl hnews
        have hkcap : k < cap := by omega
        have hr0 : 0 ≤ x1 % 20 := Int.emod_nonneg x1 (by decide)
        have hr1 : x1 % 20 < 20 := Int.emod_lt_of_pos x1 (by decide)
        obtain ⟨X, hX⟩ : ∃ X, max lo (x - 1 - x1 % 20) = X := ⟨_, rfl⟩
        have HXX := Lib.hid hX
        have hXb : lo ≤ X ∧ (X < x ∨ X = lo) := by omega
        have cx12 := fun i => cell_of_row w12 _ i _ _ _ X12.out
        have hbsz : w.heap.size + 1 < w8.heap.size := block_lt X8.out
        go_upto_region 19 with fail
        refine wp_region_inv0 (by kernel_rfl) (by kernel_rfl) (fun D w' => Below w8.heap.size w12 w' ∧ w'.heap[g]? = some (.cells (if D 19 then cur.setIfInBounds k (.int .i64 X) else cur) 3)) ⟨(Below.refl _ _).drew, HG12.out⟩ ?_
        iterate 17
          (apply obl_det
           case hrun =>
             intro D y wz hW hD R hR
             have HRR := Lib.hid hR
             have HW := Lib.hid hW
             have hc2 := (cellB hW.1).1
             clear hR hD hW
             go_wp2
             exact HRR.out _ HW.out
           case hnp => rfl
           case hv => first | exact ⟨_, fun _ => rfl⟩ | exact ⟨undef, fun _ => rfl⟩)
        apply obl_det
        case hrun =>
          intro D y wz hW hD R hR
          have HRR := Lib.hid hR
          have HW := Lib.hid hW
          clear hR hD hW
          go_wp2
          exact HRR.out _ HW.out
        case hnp => rfl
        case hv => first | exact ⟨_, fun _ => rfl⟩ | exact ⟨undef, fun _ => rfl⟩
        apply obl_det
        case hrun =>
          intro D y wz hW hD R hR
          have HRR := Lib.hid hR
          have HW := Lib.hid hW
          clear hR hD hW
          go_wp2
          exact HRR.out _ HW.out
        case hnp => rfl
        case hv => first | exact ⟨_, fun _ => rfl⟩ | exact ⟨undef, fun _ => rfl⟩
        apply obl_det
        case hrun =>
          intro D y wz hW hD R hR
          have HRR := Lib.hid hR
          have H19 : D 19 = false := hD.not
          rw [H19] at hW
          have hgz : wz.heap[g]? = some (.cells cur 3) := hW.2
          have HW := Lib.hid hW
          have cg := cell_of_row wz g k _ _ _ hgz
          have hck : cur[k]? = some (.int .i64 x) := by
            have := congrArg (·[k]?) htake
            simp only [List.getElem?_take] at this
            rw [if_pos (by omega), Array.getElem?_toList, List.getElem?_map, List.getElem?_eq_getElem (by rw [HLN.out]; exact hkn)] at this
            have h2 := HXK.out
            rw [List.getD_eq_getElem?_getD, List.getElem?_eq_getElem (by rw [HLN.out]; exact hkn)] at h2
            rw [this]
            simp at h2 ⊢
            exact h2
          rw [hck] at cg
          have fg := frozen_of_row wz g k _ _ hgz
          clear hR hD hW
          go_wp2
          exact HRR.out _ ⟨HW.out.1.setCell (p := ⟨g, k, none⟩) hgb _, setCell_in hgz k _⟩
        case hnp => rfl
        case hv => first | exact ⟨_, fun _ => rfl⟩ | exact ⟨undef, fun _ => rfl⟩
        apply obl_nil
        intro D y w13 hall hW
        rw [hall 19 (by decide)] at hW
        simp only [if_true] at hW
        have hLI13 := intsIn_set (cap := cap) hW.2 (by rw [Nat.mul_one] at htake; exact htake) HLN.out hkn (by omega)
        have CB13 := Lib.hid hW.1
        have G13 := Lib.hid hW.2
        have D13 := Lib.hid (D12.out.trans (hW.1.mono D8.out.size))
        have R13 := Lib.hid ((hW.1.block _ (block_lt R8.out)).trans R12.out)
        have hlk13 : w13.cell? ⟨bl, ol + k, none⟩ = some (.int .i64 x) := (hW.1.cell (p := ⟨bl, ol + k, none⟩) hbl).trans hlk
        have hgk13 : w13.cell? ⟨g, k, none⟩ = some (.int .i64 X) := by
          rw [cell_of_row w13 g k _ _ _ hW.2, Array.getElem?_setIfInBounds, if_pos rfl, if_pos (by omega)]
        have hg13 : g < w13.heap.size := block_lt hW.2
        have hbl13 : bl < w13.heap.size := Nat.lt_of_lt_of_le hbl (Nat.le_trans CB12.out.size hW.1.size)
        clear hall hW HLK
        have HLI13 := Lib.hid hLI13
        clear hLI13
        have cs13 := fun i => cell_of_row w13 _ i _ _ _ R13.out
        simp only [Exit.then]
        go_wp2_with fail
        have hc := counted_any s.bend s.days s.jump s.times (L.set k X) (.slice (some ⟨g, 0, none⟩) n cap) w13 HLI13.out (by rw [List.length_set, HLN.out]; omega) (by
          intro i hi
          rw [List.length_set, HLN.out] at hi
          rw [List.getD_eq_getElem?_getD, List.getElem?_set]
          by_cases hki : k = i
          · rw [if_pos hki, if_pos (by rw [HLN.out]; omega)]
            simp only [Option.getD_some]
            omega
          · rw [if_neg hki, ← List.getD_eq_getElem?_getD]
            exact (HSH.out.pos i (by omega)).1)
        rw [List.length_set, HLN.out] at hc
        have hcj : X < x → jr s.jump (revTake (L.set k X) n) < JM s.jump (rl s way n) := by
          intro hlt'
          have h1 := revTake_rev (L.set k X)
          rw [List.length_set, HLN.out] at h1
          rw [h1, jr_reverse]
          exact HLESS.out X hXb.1 hlt'
        refine hc.mono ?_
        rintro e' w14 ⟨rfl, hbw⟩
        have D14 := Lib.hid (D13.out.trans (hbw.mono D13.out.size))
        have hlk14 : w14.cell? ⟨bl, ol + k, none⟩ = some (.int .i64 x) := (hbw.cell (p := ⟨bl, ol + k, none⟩) hbl13).trans hlk13
        have hgk14 : w14.cell? ⟨g, k, none⟩ = some (.int .i64 X) := (hbw.cell (p := ⟨g, k, none⟩) hg13).trans hgk13
        have hg14 : g < w14.heap.size := Nat.lt_of_lt_of_le hg13 hbw.size
        have hbl14 : bl < w14.heap.size := Nat.lt_of_lt_of_le hbl13 hbw.size
        clear hbw hc hlk13 hgk13 hg13 hbl13 cs13 cx12 HLI13
        generalize jr s.jump (revTake (L.set k X) n) = cj at *
        generalize mr s.bend (revTake (L.set k X) n) = cm' at *
        generalize JM s.jump (rl s way n) = jj at *
        generalize MV s.bend (rl s way n) = hh at *
        by_cases hge : x ≤ X
        · have hq : decide (x ≤ X) = true := decide_eq_true hge
          go_upto_region 21 with fail
          refine wp_region_inv0 (by kernel_rfl) (by kernel_rfl) (fun _ w' => Below w14.heap.size w14 w') (Below.refl _ _).drew ?_
          iterate 25
            (apply obl_det
             case hrun =>
               intro D y wz hW hD R hR
               have HRR := Lib.hid hR
               have HW := Lib.hid hW
               have hc2 := (cellB hW).1
               clear hR hD hW
               go_wp2
               exact HRR.out _ HW.out
             case hnp => rfl
             case hv => first | exact ⟨_, fun _ => rfl⟩ | exact ⟨undef, fun _ => rfl⟩)
          apply obl_det
          case hrun =>
            intro D y wz hW hD R hR
            have HRR := Lib.hid hR
            have HW := Lib.hid hW
            clear hR hD hW
            have hc := awake_any wz
            go_wp2_with fail
            refine hc.mono ?_
            rintro e w' ⟨rfl, hbw⟩
            go_wp2_with fail
            exact HRR.out _ (HW.out.trans (hbw.mono HW.out.size))
          case hnp => rfl
          case hv => first | exact ⟨_, fun _ => rfl⟩ | exact ⟨undef, fun _ => rfl⟩
          iterate 2
            (apply obl_det
             case hrun =>
               intro D y wz hW hD R hR
               have HRR := Lib.hid hR
               have HW := Lib.hid hW
               have hc2 := (cellB hW).1
               clear hR hD hW
               go_wp2
               exact HRR.out _ HW.out
             case hnp => rfl
             case hv => first | exact ⟨_, fun _ => rfl⟩ | exact ⟨undef, fun _ => rfl⟩)
          apply obl_nil
          intro D y w15 hall hW
          have D15 := Lib.hid (D14.out.trans (hW.mono D14.out.size))
          clear hW hall
          simp only [Exit.then]
          go_wp2_with fail
          go_ret
          exact ⟨rfl, D15.out⟩
        · have hq : decide (x ≤ X) = false := decide_eq_false hge
          have hcj2 : decide (cj < jj) = true := decide_eq_true (hcj (by omega))
          go_upto_region 21 with fail
          refine wp_region_inv0 (by kernel_rfl) (by kernel_rfl) (fun _ w' => Below w14.heap.size w14 w') (Below.refl _ _).drew ?_
          iterate 25
            (apply obl_det
             case hrun =>
               intro D y wz hW hD R hR
               have HRR := Lib.hid hR
               have HW := Lib.hid hW
               have hc2 := (cellB hW).1
               clear hR hD hW
               go_wp2
               exact HRR.out _ HW.out
             case hnp => rfl
             case hv => first | exact ⟨_, fun _ => rfl⟩ | exact ⟨undef, fun _ => rfl⟩)
          apply obl_det
          case hrun =>
            intro D y wz hW hD R hR
            have HRR := Lib.hid hR
            have HW := Lib.hid hW
            clear hR hD hW
            have hc := awake_any wz
            go_wp2_with fail
            refine hc.mono ?_
            rintro e w' ⟨rfl, hbw⟩
            go_wp2_with fail
            exact HRR.out _ (HW.out.trans (hbw.mono HW.out.size))
          case hnp => rfl
          case hv => first | exact ⟨_, fun _ => rfl⟩ | exact ⟨undef, fun _ => rfl⟩
          iterate 2
            (apply obl_det
             case hrun =>
               intro D y wz hW hD R hR
               have HRR := Lib.hid hR
               have HW := Lib.hid hW
               have hc2 := (cellB hW).1
               clear hR hD hW
               go_wp2
               exact HRR.out _ HW.out
             case hnp => rfl
             case hv => first | exact ⟨_, fun _ => rfl⟩ | exact ⟨undef, fun _ => rfl⟩)
          apply obl_nil
          intro D y w15 hall hW
          have D15 := Lib.hid (D14.out.trans (hW.mono D14.out.size))
          clear hW hall
          simp only [Exit.then]
          go_wp2_with fail
          go_ret
          exact ⟨rfl, D15.out⟩
  · have hzz : (e != 0) = true := by simpa using hz
    have hsv : showV s way = ([], e) := by unfold showV; rw [if_neg (by rw [← (HXE.out : e = openE s way)]; exact hz), ← (HXE.out : e = openE s way)]
    rw [hsv] at hli ⊢
    obtain ⟨al, cl, rfl, -, -⟩ := hli
    clear hz
    go_wp2_with fail
    refine (awake_any _).mono ?_
    rintro e' w3 ⟨rfl, hbw⟩
    have C3 := Lib.hid (C2.out.trans (hbw.mono C2.out.size))
    clear hbw
    go_wp2_with fail
    go_ret
    exact ⟨rfl, C3.out⟩
end Go.Proofs.Ytddapabmfecidaa
