/- wick.Thinnest. -/
import Derived.Test.YtpkggjobdmchlaaGreatDoorU12
namespace Go.Proofs.YtpkggjobdmchlaaGreatDoor
open Go.RowKit Go.Shelf
attribute [local go_sem] Oper.semAt_some
def thr (s : WShop) (i : Nat) : Int := (s.wicks.getD i default).threads
def thinStep (s : WShop) (best : Int) (i : Nat) : Int := if best < 0 ∨ thr s i < thr s best.toNat then (i : Int) else best
def thinL (s : WShop) (l : List Nat) : Int := l.foldl (thinStep s) (-1)
theorem thinL_snoc (s : WShop) (l : List Nat) (i : Nat) : thinL s (l ++ [i]) = thinStep s (thinL s l) i := by simp [thinL]
theorem thinTo_eq (s : WShop) (c : Candle) : ∀ n, thinTo s c n = thinL s (suitF s c n)
  | 0 => rfl
  | n + 1 => by
    rw [suitF_succ, thinTo, thinTo_eq s c n]
    by_cases h : suitsB s c n = true
    · rw [if_pos h, thinL_snoc]
      unfold thinStep thr
      simp only [h, true_and]
    · rw [if_neg h, if_neg (fun e => h e.1)]
theorem thinL_lt (s : WShop) {n : Nat} (l : List Nat) (hl : ∀ i ∈ l, i < n) : -1 ≤ thinL s l ∧ thinL s l < n := by
  have key : ∀ (l : List Nat) (b : Int), -1 ≤ b → b < n → (∀ i ∈ l, i < n) → -1 ≤ l.foldl (thinStep s) b ∧ l.foldl (thinStep s) b < n := by
    intro l
    induction l with
    | nil => intro b h1 h2 _; exact ⟨h1, h2⟩
    | cons a l ih =>
      intro b h1 h2 h3
      have ha := h3 a (by simp)
      rw [List.foldl_cons]
      refine ih _ ?_ ?_ (fun i hi => h3 i (by simp [hi]))
      · unfold thinStep; split <;> omega
      · unfold thinStep; split <;> omega
  exact key l (-1) (by omega) (by omega) hl
set_option maxRecDepth 100000 in
set_option maxHeartbeats 16000000 in
theorem Thinnest_ok {s : WShop} {c : Candle} (hs : WOk s c) (vw vx : Value) (w : World) (hv : WShopAt w.heap.size w vw vx s) :
    Calls Tryz.prog 26 #[.agg (wshopC vw vx s), .agg (candC c)] w fun e w' => e = .returned (.tuple #[.int .i64 (if 0 ≤ (thinTo s c s.wicks.length) then (thinTo s c s.wicks.length) else 0), .int .i64 (if 0 ≤ (thinTo s c s.wicks.length) then 0 else 9)]) ∧ Below w.heap.size w w' := by
  obtain ⟨va, vc, rfl, hvl, -⟩ := sl_shape hv.1
  obtain ⟨xa, xc, rfl, hxl, -⟩ := sl_shape hv.2
  have HV := Lib.hid hv
  have HOP := fun vk w h1 h2 => Lib.hid (wopen_ok hs [] (by intro z hz; simp at hz) (.slice va s.wicks.length vc) (.slice xa s.waxes.length xc) vk w h1 h2)
  have C0 : Hid (Bs w [(w.heap.size, .cells #[.slice va s.wicks.length vc, .slice xa s.waxes.length xc, .int .i64 s.flame.1, .int .i64 s.flame.2, .int .i64 s.pool.1, .int .i64 s.pool.2] 27), (w.heap.size + 1, .cells #[.int .i64 c.wax, .int .i64 c.dia, .int .i64 c.draught, .int .i64 c.cold.1, .int .i64 c.cold.2] 32)] _) := Lib.hid (((Bs.nil w).push _ rfl (.cells #[.slice va s.wicks.length vc, .slice xa s.waxes.length xc, .int .i64 s.flame.1, .int .i64 s.flame.2, .int .i64 s.pool.1, .int .i64 s.pool.2] 27)).push (w.heap.size + 1) (by simp) (.cells #[.int .i64 c.wax, .int .i64 c.dia, .int .i64 c.draught, .int .i64 c.cold.1, .int .i64 c.cold.2] 32))
  have hc0 := C0.out.cell 0 rfl 0
  have hc1 := C0.out.cell 0 rfl 1
  have hc2 := C0.out.cell 0 rfl 2
  have hc3 := C0.out.cell 0 rfl 3
  have hc4 := C0.out.cell 0 rfl 4
  have hc5 := C0.out.cell 0 rfl 5
  have hk0 := C0.out.cell 1 rfl 0
  have hk1 := C0.out.cell 1 rfl 1
  have hk2 := C0.out.cell 1 rfl 2
  have hk3 := C0.out.cell 1 rfl 3
  have hk4 := C0.out.cell 1 rfl 4
  have hs0 := Lib.hid hs
  clear hs hv
  obtain ⟨RV, HRV⟩ : ∃ v, Hid ((if 0 ≤ (thinTo s c s.wicks.length) then (thinTo s c s.wicks.length) else 0) = v) := ⟨_, rfl⟩
  obtain ⟨EV, HEV⟩ : ∃ v, Hid ((if 0 ≤ (thinTo s c s.wicks.length) then 0 else 9 : Int) = v) := ⟨_, rfl⟩
  rw [HRV.out, HEV.out]
  have HNP : Hid (0 < s.wicks.length) := hs0.out.nw1
  have HN12 := Lib.hid hs0.out.nw12
  refine (callsIn_wide (n := 3)).1 ?_
  refine callsIn_of_wp_marks Tryz.func26 rfl trivial ?_ rfl
  simp only [Tryz.ntmps26, List.size_toArray, List.length_cons, List.length_nil, Nat.reduceAdd, Nat.reduceSub, Array.replicate_succ, Array.replicate_zero, List.push_toArray, List.append_toArray, List.nil_append, List.cons_append]
  gi_wp2_with fail
  refine ⟨trivial, (callsIn_wide.2 (HOP _ _ ((HV.out.below C0.out.bel).mono C0.out.bel.size) ⟨none, 0, rfl, by simp, .inl rfl⟩).out).mono ?_⟩
  rintro e w1 ⟨g, rfl, -, hg, hb⟩
  have C1 := Lib.hid (C0.out.call hb)
  have HG := Lib.hid hg
  clear hb hg C0 HOP hc0 hc1 hc2 hc3 hc4 hc5 hk0 hk1 hk2 hk3 hk4
  gi_wp2_with fail
  refine ⟨trivial, (callsIn_wide.2 (suiting_any g _)).mono ?_⟩
  rintro e w2 ⟨rfl, rfl⟩
  have C2 := Lib.hid ((((Bs.nil w1).push _ rfl (.cells #[.pointer (some ⟨g, 0, none⟩)] 96)).push (w1.heap.size + 1) (by simp) (.cells #[.int .i64 (-1)] 3)).push (w1.heap.size + 1 + 1) (by simp) (.cells #[.pointer (some ⟨g, 0, none⟩)] 96))
  have C2' : Hid (Bs w1 [(w1.heap.size, .cells #[.pointer (some ⟨g, 0, none⟩)] 96), (w1.heap.size + 1, .cells #[.int .i64 (thinL s [])] 3), (w1.heap.size + 1 + 1, .cells #[.pointer (some ⟨g, 0, none⟩)] 96)] _) := C2
  have HGW := Lib.hid (block_keep HG.out C2.out.bel)
  have HZS : Hid ((((w1.alloc (.cells #[.pointer (some ⟨g, 0, none⟩)] 96)).alloc (.cells #[.int .i64 (-1)] 3)).alloc (.cells #[.pointer (some ⟨g, 0, none⟩)] 96)).heap.size = w1.heap.size + 1 + 1 + 1) := by unfold Hid; simp
  have HVW := Lib.hid (((HV.out.below C1.out.bel).mono C1.out.bel.size).below C2.out.bel)
  have HV1 := Lib.hid ((HV.out.below C1.out.bel).mono C1.out.bel.size)
  have HGL := Lib.hid (block_lt HG.out)
  have HGV := Lib.hid (suit1_gives (fun x : Fin s.wicks.length => #[.int .i64 (x.val : Int)]) (fun i => ⟨i % s.wicks.length, Nat.mod_lt _ HNP.out⟩) hs0.out (fun i hi => by simp [Nat.mod_eq_of_lt hi]) 2 (by omega) va vc (.slice xa s.waxes.length xc) g (w1.heap.size + 1 + 1) w1.heap.size (((w1.alloc (.cells #[.pointer (some ⟨g, 0, none⟩)] 96)).alloc (.cells #[.int .i64 (-1)] 3)).alloc (.cells #[.pointer (some ⟨g, 0, none⟩)] 96)) (C2.out.get 2 rfl) HGW.out HVW.out C2.out.bel.size)
  clear HV HVW
  gi_wp2_with fail
  refine wpIn_range_stab (α := Fin s.wicks.length) rfl (by omega) (gf := 96) (lb := #[.pointer (some ⟨w1.heap.size + 1 + 1, 0, none⟩)]) rfl trivial (enters_of Tryz.func96 (by kernel_rfl) rfl) HGV.out
    (fun h k => SuK.t h k) (SuK.turn C2.out.bel.size (by have := HGL.out; have := HZS.out; omega) (by have := HZS.out; omega)) (fun _ => rfl)
    (fun pre W => Bs w1 [(w1.heap.size, .cells #[.pointer (some ⟨g, 0, none⟩)] 96), (w1.heap.size + 1, .cells #[.int .i64 (thinL s (pre.map Fin.val))] 3), (w1.heap.size + 1 + 1, .cells #[.pointer (some ⟨g, 0, none⟩)] 96)] W) (fun _ _ _ => False) (fun pre W W' h hb => h.call hb) (fun _ _ _ _ h _ => h)
    (fun pre W l o o' hl h ho hc => ⟨fun q hq => (World.putObj_heap_other (by have := HZS.out; simp at hq; rcases hq with rfl | rfl | rfl <;> simp <;> omega)).trans (h.get' q hq), h.inc, h.ge, h.bel.trans ⟨rfl, rfl, rfl, by simp [World.putObj], fun k hk => World.putObj_heap_other (by have := HZS.out; omega)⟩⟩)
    (fun _ _ _ _ _ _ _ h _ _ => h) C2'.out
    (fun x a' _ => a' = { tmps := #[.agg #[.slice va s.wicks.length vc, .slice xa s.waxes.length xc, .int .i64 s.flame.1, .int .i64 s.flame.2, .int .i64 s.pool.1, .int .i64 s.pool.2], .agg #[.int .i64 c.wax, .int .i64 c.dia, .int .i64 c.draught, .int .i64 c.cold.1, .int .i64 c.cold.2], .pointer (some ⟨w.heap.size, 0, none⟩), .pointer (some ⟨w.heap.size + 1, 0, none⟩), .int .i64 0, .int .i64 0, .pointer (some ⟨w1.heap.size, 0, none⟩), .int .i64 0, .pointer (some ⟨w1.heap.size + 1, 0, none⟩), .int .i64 (x.val : Int), .tuple #[.pointer (some ⟨g, 0, none⟩), .int .i64 0], .agg #[.slice va s.wicks.length vc, .slice xa s.waxes.length xc, .int .i64 s.flame.1, .int .i64 s.flame.2, .int .i64 s.pool.1, .int .i64 s.pool.2], .agg #[.int .i64 c.wax, .int .i64 c.dia, .int .i64 c.draught, .int .i64 c.cold.1, .int .i64 c.cold.2], .tuple #[.pointer (some ⟨g, 0, none⟩), .int .i64 0], .pointer (some ⟨g, 0, none⟩), .int .i64 0, .int .i64 0, .bool false, undef, .pointer (some ⟨g, 0, none⟩), .func (.func 96) #[] #[.pointer (some ⟨w1.heap.size + 1 + 1, 0, none⟩)], .int .i64 (x.val : Int), undef, undef, undef, undef, undef, undef, undef, undef, undef, undef, undef, undef, undef, undef, undef, undef, undef, undef, undef, undef, undef, undef, undef, undef, undef, undef, undef], defers := [] }) (fun x a' W l o o' h _ _ _ => h) ?assign ?body ?done ?stop
  case stop =>
    intro D c pre W _ _ h _
    exact h.elim
  case assign =>
    intro lp pre x W K hI hszV hK
    have HK := Lib.hid hK
    have HI := Lib.hid hI
    clear hK hI
    gi_wp2_with fail
    exact HK.out _ _ ⟨Nat.le_refl _, fun _ _ _ h _ => h⟩ (SuK.refl _ _ _ _) HI.out rfl
  case body =>
    rintro lp pre ⟨k, hk⟩ a' W hszW hI rfl hlen
    have HN : Hid (thinL s ((pre ++ [(⟨k, hk⟩ : Fin s.wicks.length)]).map Fin.val) = thinStep s (thinL s (pre.map Fin.val)) k) := by unfold Hid; rw [List.map_append]; exact thinL_snoc s _ k
    obtain ⟨hb0, hb1⟩ := thinL_lt s (n := s.wicks.length) (pre.map Fin.val) (by intro i hi; obtain ⟨y, -, rfl⟩ := List.mem_map.1 hi; exact y.isLt)
    obtain ⟨bt, HBT⟩ : ∃ bt, Hid (thinL s (pre.map Fin.val) = bt) := ⟨_, rfl⟩
    rw [HBT.out] at HN hb0 hb1
    have HI : Hid (Bs w1 [(w1.heap.size, .cells #[.pointer (some ⟨g, 0, none⟩)] 96), (w1.heap.size + 1, .cells #[.int .i64 (bt)] 3), (w1.heap.size + 1 + 1, .cells #[.pointer (some ⟨g, 0, none⟩)] 96)] W) := by have h := hI; rw [HBT.out] at h; exact h
    have HX : ∀ i, i < s.wicks.length → ∃ b o, va = some ⟨b, o, none⟩ ∧ b < w1.heap.size ∧ w1.cell? ⟨b, o + i * 4 + 1, none⟩ = some (.int .i64 (thr s i)) := by
      intro i hi
      obtain ⟨b, o, he, hbl, -, hxt, -⟩ := HV1.out.1.at' hi
      exact ⟨b, o, he, hbl, hxt⟩
    have HSZ := Lib.hid hszW
    obtain ⟨b, o, rfl, hbl, hxk⟩ := HX k hk
    have HXK := Lib.hid hxk
    have HBL := Lib.hid hbl
    have hki : (k : Int) < (s.wicks.length : Int) := by omega
    clear hI hszW hlen hxk hbl HGV
    have KF : ∀ W', Below W.heap.size W W' → KeepsFrom (((w1.alloc (.cells #[.pointer (some ⟨g, 0, none⟩)] 96)).alloc (.cells #[.int .i64 (-1)] 3)).alloc (.cells #[.pointer (some ⟨g, 0, none⟩)] 96)).heap.size W W' ∧ SuK w1.heap.size g (w1.heap.size + 1 + 1) W W' := fun W' h =>
      ⟨⟨h.size, fun q o hq hqo hnc => block_keep hqo h⟩, SuK.below HI.out.bel.size (by have := HI.out.bel.size; have := HGL.out; omega) (by have := HZS.out; have := HSZ.out; omega) h⟩
    have KF2 : ∀ w8 w9, Below W.heap.size W w8 → But (w1.heap.size + 1) w8 w9 → KeepsFrom (((w1.alloc (.cells #[.pointer (some ⟨g, 0, none⟩)] 96)).alloc (.cells #[.int .i64 (-1)] 3)).alloc (.cells #[.pointer (some ⟨g, 0, none⟩)] 96)).heap.size W w9 ∧ SuK w1.heap.size g (w1.heap.size + 1 + 1) W w9 := by
      intro w8 w9 h hb
      have h1 := HI.out.bel.size
      have h2 := HGL.out
      have h3 := HZS.out
      have h4 := HSZ.out
      have h5 := h.size
      have h6 := hb.size
      have KB : ∀ q o, W.heap[q]? = some o → q ≠ w1.heap.size + 1 → w9.heap[q]? = some o := fun q o hq hn => by
        have h8 := block_keep hq h
        exact (hb.block q (block_lt h8) hn).trans h8
      refine ⟨⟨by omega, fun q o hq hqo hnc => KB q o hqo (by omega)⟩, ⟨by omega, (h.mono h1).trans ⟨hb.os, hb.tape, hb.output, by omega, fun k hk => hb.block k (by omega) (by omega)⟩, ?_, ?_⟩⟩
      · exact (hb.block g (by omega) (by omega)).trans (h.block g (by omega))
      · exact (hb.block _ (by omega) (by omega)).trans (h.block _ (by omega))
    rcases Int.lt_or_le bt 0 with hneg | hpos
    · gi_wp2_with fail
      refine wpIn_region_inv0 (by kernel_rfl) (by kernel_rfl) (fun D w' => Below W.heap.size W w') (Below.refl _ _).drew ?_
      apply obl_detIn
      case hrun =>
        intro D y wz hW hD R hR
        have HRR := Lib.hid hR
        clear hR
        have HW := Lib.hid hW
        have C8 := Lib.hid (HI.out.call HW.out)
        have h1 := C8.out.cell 1 rfl 0
        clear hW hD
        gi_wp2_with fail
        exact HRR.out _ HW.out
      case hnp => rfl
      case hv => first | exact ⟨_, fun _ => rfl⟩ | exact ⟨undef, fun _ => rfl⟩
      apply obl_detIn
      case hrun =>
        intro D y wz hW hD R hR
        have HRR := Lib.hid hR
        clear hR
        have HW := Lib.hid hW
        clear hW hD
        gi_wp2_with fail
        exact HRR.out _ HW.out
      case hnp => rfl
      case hv => first | exact ⟨_, fun _ => rfl⟩ | exact ⟨undef, fun _ => rfl⟩
      apply obl_detIn
      case hrun =>
        intro D y wz hW hD R hR
        have HRR := Lib.hid hR
        clear hR
        have HW := Lib.hid hW
        clear hW hD
        gi_wp2_with fail
        exact HRR.out _ HW.out
      case hnp => rfl
      case hv => first | exact ⟨_, fun _ => rfl⟩ | exact ⟨undef, fun _ => rfl⟩
      apply obl_detIn
      case hrun =>
        intro D y wz hW hD R hR
        have HRR := Lib.hid hR
        clear hR
        have HW := Lib.hid hW
        clear hW hD
        gi_wp2_with fail
        exact HRR.out _ HW.out
      case hnp => rfl
      case hv => first | exact ⟨_, fun _ => rfl⟩ | exact ⟨undef, fun _ => rfl⟩
      apply obl_detIn
      case hrun =>
        intro D y wz hW hD R hR
        have HRR := Lib.hid hR
        clear hR
        have HW := Lib.hid hW
        clear hW hD
        gi_wp2_with fail
        exact HRR.out _ HW.out
      case hnp => rfl
      case hv => first | exact ⟨_, fun _ => rfl⟩ | exact ⟨undef, fun _ => rfl⟩
      apply obl_detIn
      case hrun =>
        intro D y wz hW hD R hR
        have HRR := Lib.hid hR
        clear hR
        have HW := Lib.hid hW
        clear hW hD
        gi_wp2_with fail
        exact HRR.out _ HW.out
      case hnp => rfl
      case hv => first | exact ⟨_, fun _ => rfl⟩ | exact ⟨undef, fun _ => rfl⟩
      apply obl_detIn
      case hrun =>
        intro D y wz hW hD R hR
        have HRR := Lib.hid hR
        clear hR
        have HW := Lib.hid hW
        clear hW hD
        gi_wp2_with fail
        exact HRR.out _ HW.out
      case hnp => rfl
      case hv => first | exact ⟨_, fun _ => rfl⟩ | exact ⟨undef, fun _ => rfl⟩
      apply obl_detIn
      case hrun =>
        intro D y wz hW hD R hR
        have HRR := Lib.hid hR
        clear hR
        have HW := Lib.hid hW
        clear hW hD
        gi_wp2_with fail
        exact HRR.out _ HW.out
      case hnp => rfl
      case hv => first | exact ⟨_, fun _ => rfl⟩ | exact ⟨undef, fun _ => rfl⟩
      apply obl_detIn
      case hrun =>
        intro D y wz hW hD R hR
        have HRR := Lib.hid hR
        clear hR
        have HW := Lib.hid hW
        clear hW hD
        gi_wp2_with fail
        exact HRR.out _ HW.out
      case hnp => rfl
      case hv => first | exact ⟨_, fun _ => rfl⟩ | exact ⟨undef, fun _ => rfl⟩
      apply obl_detIn
      case hrun =>
        intro D y wz hW hD R hR
        have HRR := Lib.hid hR
        clear hR
        have HW := Lib.hid hW
        clear hW hD
        gi_wp2_with fail
        exact HRR.out _ HW.out
      case hnp => rfl
      case hv => first | exact ⟨_, fun _ => rfl⟩ | exact ⟨undef, fun _ => rfl⟩
      apply obl_detIn
      case hrun =>
        intro D y wz hW hD R hR
        have HRR := Lib.hid hR
        clear hR
        have HW := Lib.hid hW
        clear hW hD
        gi_wp2_with fail
        exact HRR.out _ HW.out
      case hnp => rfl
      case hv => first | exact ⟨_, fun _ => rfl⟩ | exact ⟨undef, fun _ => rfl⟩
      apply obl_detIn
      case hrun =>
        intro D y wz hW hD R hR
        have HRR := Lib.hid hR
        clear hR
        have HW := Lib.hid hW
        clear hW hD
        gi_wp2_with fail
        exact HRR.out _ HW.out
      case hnp => rfl
      case hv => first | exact ⟨_, fun _ => rfl⟩ | exact ⟨undef, fun _ => rfl⟩
      apply obl_detIn
      case hrun =>
        intro D y wz hW hD R hR
        have HRR := Lib.hid hR
        clear hR
        have HW := Lib.hid hW
        clear hW hD
        gi_wp2_with fail
        exact HRR.out _ HW.out
      case hnp => rfl
      case hv => first | exact ⟨_, fun _ => rfl⟩ | exact ⟨undef, fun _ => rfl⟩
      apply obl_detIn
      case hrun =>
        intro D y wz hW hD R hR
        have HRR := Lib.hid hR
        clear hR
        have HW := Lib.hid hW
        clear hW hD
        gi_wp2_with fail
        exact HRR.out _ HW.out
      case hnp => rfl
      case hv => first | exact ⟨_, fun _ => rfl⟩ | exact ⟨undef, fun _ => rfl⟩
      apply obl_detIn
      case hrun =>
        intro D y wz hW hD R hR
        have HRR := Lib.hid hR
        clear hR
        have HW := Lib.hid hW
        clear hW hD
        gi_wp2_with fail
        exact HRR.out _ HW.out
      case hnp => rfl
      case hv => first | exact ⟨_, fun _ => rfl⟩ | exact ⟨undef, fun _ => rfl⟩
      apply obl_detIn
      case hrun =>
        intro D y wz hW hD R hR
        have HRR := Lib.hid hR
        clear hR
        have HW := Lib.hid hW
        clear hW hD
        gi_wp2_with fail
        exact HRR.out _ HW.out
      case hnp => rfl
      case hv => first | exact ⟨_, fun _ => rfl⟩ | exact ⟨undef, fun _ => rfl⟩
      apply obl_detIn
      case hrun =>
        intro D y wz hW hD R hR
        have HRR := Lib.hid hR
        clear hR
        have HW := Lib.hid hW
        clear hW hD
        gi_wp2_with fail
        exact HRR.out _ HW.out
      case hnp => rfl
      case hv => first | exact ⟨_, fun _ => rfl⟩ | exact ⟨undef, fun _ => rfl⟩
      apply obl_detIn
      case hrun =>
        intro D y wz hW hD R hR
        have HRR := Lib.hid hR
        clear hR
        have HW := Lib.hid hW
        clear hW hD
        gi_wp2_with fail
        exact HRR.out _ HW.out
      case hnp => rfl
      case hv => first | exact ⟨_, fun _ => rfl⟩ | exact ⟨undef, fun _ => rfl⟩
      apply obl_detIn
      case hrun =>
        intro D y wz hW hD R hR
        have HRR := Lib.hid hR
        clear hR
        have HW := Lib.hid hW
        clear hW hD
        gi_wp2_with fail
        exact HRR.out _ HW.out
      case hnp => rfl
      case hv => first | exact ⟨_, fun _ => rfl⟩ | exact ⟨undef, fun _ => rfl⟩
      apply obl_detIn
      case hrun =>
        intro D y wz hW hD R hR
        have HRR := Lib.hid hR
        clear hR
        have HW := Lib.hid hW
        clear hW hD
        gi_wp2_with fail
        exact HRR.out _ HW.out
      case hnp => rfl
      case hv => first | exact ⟨_, fun _ => rfl⟩ | exact ⟨undef, fun _ => rfl⟩
      apply obl_detIn
      case hrun =>
        intro D y wz hW hD R hR
        have HRR := Lib.hid hR
        clear hR
        have HW := Lib.hid hW
        clear hW hD
        gi_wp2_with fail
        exact HRR.out _ HW.out
      case hnp => rfl
      case hv => first | exact ⟨_, fun _ => rfl⟩ | exact ⟨undef, fun _ => rfl⟩
      apply obl_detIn
      case hrun =>
        intro D y wz hW hD R hR
        have HRR := Lib.hid hR
        clear hR
        have HW := Lib.hid hW
        clear hW hD
        gi_wp2_with fail
        exact HRR.out _ HW.out
      case hnp => rfl
      case hv => first | exact ⟨_, fun _ => rfl⟩ | exact ⟨undef, fun _ => rfl⟩
      apply obl_detIn
      case hrun =>
        intro D y wz hW hD R hR
        have HRR := Lib.hid hR
        clear hR
        have HW := Lib.hid hW
        clear hW hD
        gi_wp2_with fail
        exact HRR.out _ HW.out
      case hnp => rfl
      case hv => first | exact ⟨_, fun _ => rfl⟩ | exact ⟨undef, fun _ => rfl⟩
      apply obl_nilIn
      intro D y w8 hall hW
      have HW8 := Lib.hid hW
      have C8 := Lib.hid (HI.out.call hW)
      clear hall hW
      gi_wp2_with (first | (refine wpListIn_cell_bb (o := ⟨none, .store 3 (.tmp 8) (.tmp 45), _, _, _, _⟩) rfl 3 _ _ rfl C8.out 1 (w1.heap.size + 1) 0 _ 3 rfl ?_ (.int .i64 k) ?_ ?_ ?_ ?_ ?_; (exact rfl); (exact rfl); (simp); (exact rfl); (exact info3); intro w9 hC9 hB9; have HC9 : Hid (Bs w1 [(w1.heap.size, .cells #[.pointer (some ⟨g, 0, none⟩)] 96), (w1.heap.size + 1, .cells #[.int .i64 ((k : Int))] 3), (w1.heap.size + 1 + 1, .cells #[.pointer (some ⟨g, 0, none⟩)] 96)] w9) := hC9; have HB9 := Lib.hid hB9; clear hC9 hB9) | fail)
      try simp only [Exit.inBlock]
      obtain ⟨q1, q2⟩ := KF2 w8 w9 HW8.out HB9.out
      refine ⟨q1, q2, ?_⟩
      show Bs w1 [(w1.heap.size, .cells #[.pointer (some ⟨g, 0, none⟩)] 96), (w1.heap.size + 1, .cells #[.int .i64 (thinL s ((pre ++ [(⟨k, hk⟩ : Fin s.wicks.length)]).map Fin.val))] 3), (w1.heap.size + 1 + 1, .cells #[.pointer (some ⟨g, 0, none⟩)] 96)] w9
      rw [HN.out]
      unfold thinStep
      rw [if_pos (.inl hneg)]
      exact HC9.out
    · obtain ⟨m, rfl⟩ : ∃ m : Nat, bt = m := ⟨bt.toNat, by omega⟩
      have hmn : m < s.wicks.length := by omega
      obtain ⟨b', o', he', -, hxm⟩ := HX m hmn
      cases he'
      have HXM := Lib.hid hxm
      have hmi : (m : Int) < (s.wicks.length : Int) := by omega
      have hnn : decide ((m : Int) < 0) = false := by simp
      clear hxm
      obtain ⟨tk, HTK⟩ : ∃ t, Hid (thr s k = t) := ⟨_, rfl⟩
      obtain ⟨tm, HTM⟩ : ∃ t, Hid (thr s m = t) := ⟨_, rfl⟩
      rw [HTK.out] at HXK
      rw [HTM.out] at HXM
      gi_wp2_with fail
      refine wpIn_region_inv0 (by kernel_rfl) (by kernel_rfl) (fun D w' => Below W.heap.size W w') (Below.refl _ _).drew ?_
      apply obl_detIn
      case hrun =>
        intro D y wz hW hD R hR
        have HRR := Lib.hid hR
        clear hR
        have HW := Lib.hid hW
        have C8 := Lib.hid (HI.out.call HW.out)
        have h1 := C8.out.cell 1 rfl 0
        clear hW hD
        gi_wp2_with fail
        exact HRR.out _ HW.out
      case hnp => rfl
      case hv => first | exact ⟨_, fun _ => rfl⟩ | exact ⟨undef, fun _ => rfl⟩
      apply obl_detIn
      case hrun =>
        intro D y wz hW hD R hR
        have HRR := Lib.hid hR
        clear hR
        have HW := Lib.hid hW
        clear hW hD
        gi_wp2_with fail
        exact HRR.out _ HW.out
      case hnp => rfl
      case hv => first | exact ⟨_, fun _ => rfl⟩ | exact ⟨undef, fun _ => rfl⟩
      apply obl_detIn
      case hrun =>
        intro D y wz hW hD R hR
        have HRR := Lib.hid hR
        clear hR
        have HW := Lib.hid hW
        clear hW hD
        gi_wp2_with fail
        exact HRR.out _ HW.out
      case hnp => rfl
      case hv => first | exact ⟨_, fun _ => rfl⟩ | exact ⟨undef, fun _ => rfl⟩
      apply obl_detIn
      case hrun =>
        intro D y wz hW hD R hR
        have HRR := Lib.hid hR
        clear hR
        have HW := Lib.hid hW
        have C8 := Lib.hid (HI.out.call HW.out)
        have h0 := C8.out.cell 0 rfl 0
        have hgg := block_keep HG.out C8.out.bel
        have hg0 := cell_of_row _ _ 0 _ _ _ hgg
        clear hW hD
        gi_wp2_with fail
        exact HRR.out _ HW.out
      case hnp => rfl
      case hv => first | exact ⟨_, fun _ => rfl⟩ | exact ⟨undef, fun _ => rfl⟩
      apply obl_detIn
      case hrun =>
        intro D y wz hW hD R hR
        have HRR := Lib.hid hR
        clear hR
        have HW := Lib.hid hW
        clear hW hD
        gi_wp2_with fail
        exact HRR.out _ HW.out
      case hnp => rfl
      case hv => first | exact ⟨_, fun _ => rfl⟩ | exact ⟨undef, fun _ => rfl⟩
      apply obl_detIn
      case hrun =>
        intro D y wz hW hD R hR
        have HRR := Lib.hid hR
        clear hR
        have HW := Lib.hid hW
        clear hW hD
        gi_wp2_with fail
        exact HRR.out _ HW.out
      case hnp => rfl
      case hv => first | exact ⟨_, fun _ => rfl⟩ | exact ⟨undef, fun _ => rfl⟩
      apply obl_detIn
      case hrun =>
        intro D y wz hW hD R hR
        have HRR := Lib.hid hR
        clear hR
        have HW := Lib.hid hW
        clear hW hD
        gi_wp2_with fail
        exact HRR.out _ HW.out
      case hnp => rfl
      case hv => first | exact ⟨_, fun _ => rfl⟩ | exact ⟨undef, fun _ => rfl⟩
      apply obl_detIn
      case hrun =>
        intro D y wz hW hD R hR
        have HRR := Lib.hid hR
        clear hR
        have HW := Lib.hid hW
        have C8 := Lib.hid (HI.out.call HW.out)
        have h0 := C8.out.cell 0 rfl 0
        have hgg := block_keep HG.out C8.out.bel
        have hg0 := cell_of_row _ _ 0 _ _ _ hgg
        clear hW hD
        gi_wp2_with fail
        exact HRR.out _ HW.out
      case hnp => rfl
      case hv => first | exact ⟨_, fun _ => rfl⟩ | exact ⟨undef, fun _ => rfl⟩
      apply obl_detIn
      case hrun =>
        intro D y wz hW hD R hR
        have HRR := Lib.hid hR
        clear hR
        have HW := Lib.hid hW
        clear hW hD
        gi_wp2_with fail
        exact HRR.out _ HW.out
      case hnp => rfl
      case hv => first | exact ⟨_, fun _ => rfl⟩ | exact ⟨undef, fun _ => rfl⟩
      apply obl_detIn
      case hrun =>
        intro D y wz hW hD R hR
        have HRR := Lib.hid hR
        clear hR
        have HW := Lib.hid hW
        clear hW hD
        gi_wp2_with fail
        exact HRR.out _ HW.out
      case hnp => rfl
      case hv => first | exact ⟨_, fun _ => rfl⟩ | exact ⟨undef, fun _ => rfl⟩
      apply obl_detIn
      case hrun =>
        intro D y wz hW hD R hR
        have HRR := Lib.hid hR
        clear hR
        have HW := Lib.hid hW
        clear hW hD
        gi_wp2_with fail
        exact HRR.out _ HW.out
      case hnp => rfl
      case hv => first | exact ⟨_, fun _ => rfl⟩ | exact ⟨undef, fun _ => rfl⟩
      apply obl_detIn
      case hrun =>
        intro D y wz hW hD R hR
        have HRR := Lib.hid hR
        clear hR
        have HW := Lib.hid hW
        have C8 := Lib.hid (HI.out.call HW.out)
        have h1 := (C8.out.bel.cell (p := ⟨b, o + k * 4 + 1, none⟩) HBL.out).trans HXK.out
        clear hW hD
        gi_wp2_with fail
        exact HRR.out _ HW.out
      case hnp => rfl
      case hv => first | exact ⟨_, fun _ => rfl⟩ | exact ⟨undef, fun _ => rfl⟩
      apply obl_detIn
      case hrun =>
        intro D y wz hW hD R hR
        have HRR := Lib.hid hR
        clear hR
        have HW := Lib.hid hW
        have C8 := Lib.hid (HI.out.call HW.out)
        have h0 := C8.out.cell 0 rfl 0
        have hgg := block_keep HG.out C8.out.bel
        have hg0 := cell_of_row _ _ 0 _ _ _ hgg
        clear hW hD
        gi_wp2_with fail
        exact HRR.out _ HW.out
      case hnp => rfl
      case hv => first | exact ⟨_, fun _ => rfl⟩ | exact ⟨undef, fun _ => rfl⟩
      apply obl_detIn
      case hrun =>
        intro D y wz hW hD R hR
        have HRR := Lib.hid hR
        clear hR
        have HW := Lib.hid hW
        clear hW hD
        gi_wp2_with fail
        exact HRR.out _ HW.out
      case hnp => rfl
      case hv => first | exact ⟨_, fun _ => rfl⟩ | exact ⟨undef, fun _ => rfl⟩
      apply obl_detIn
      case hrun =>
        intro D y wz hW hD R hR
        have HRR := Lib.hid hR
        clear hR
        have HW := Lib.hid hW
        clear hW hD
        gi_wp2_with fail
        exact HRR.out _ HW.out
      case hnp => rfl
      case hv => first | exact ⟨_, fun _ => rfl⟩ | exact ⟨undef, fun _ => rfl⟩
      apply obl_detIn
      case hrun =>
        intro D y wz hW hD R hR
        have HRR := Lib.hid hR
        clear hR
        have HW := Lib.hid hW
        clear hW hD
        gi_wp2_with fail
        exact HRR.out _ HW.out
      case hnp => rfl
      case hv => first | exact ⟨_, fun _ => rfl⟩ | exact ⟨undef, fun _ => rfl⟩
      apply obl_detIn
      case hrun =>
        intro D y wz hW hD R hR
        have HRR := Lib.hid hR
        clear hR
        have HW := Lib.hid hW
        have C8 := Lib.hid (HI.out.call HW.out)
        have h0 := C8.out.cell 0 rfl 0
        have hgg := block_keep HG.out C8.out.bel
        have hg0 := cell_of_row _ _ 0 _ _ _ hgg
        clear hW hD
        gi_wp2_with fail
        exact HRR.out _ HW.out
      case hnp => rfl
      case hv => first | exact ⟨_, fun _ => rfl⟩ | exact ⟨undef, fun _ => rfl⟩
      apply obl_detIn
      case hrun =>
        intro D y wz hW hD R hR
        have HRR := Lib.hid hR
        clear hR
        have HW := Lib.hid hW
        have C8 := Lib.hid (HI.out.call HW.out)
        have h1 := C8.out.cell 1 rfl 0
        clear hW hD
        gi_wp2_with fail
        exact HRR.out _ HW.out
      case hnp => rfl
      case hv => first | exact ⟨_, fun _ => rfl⟩ | exact ⟨undef, fun _ => rfl⟩
      apply obl_detIn
      case hrun =>
        intro D y wz hW hD R hR
        have HRR := Lib.hid hR
        clear hR
        have HW := Lib.hid hW
        clear hW hD
        gi_wp2_with fail
        exact HRR.out _ HW.out
      case hnp => rfl
      case hv => first | exact ⟨_, fun _ => rfl⟩ | exact ⟨undef, fun _ => rfl⟩
      apply obl_detIn
      case hrun =>
        intro D y wz hW hD R hR
        have HRR := Lib.hid hR
        clear hR
        have HW := Lib.hid hW
        clear hW hD
        gi_wp2_with fail
        exact HRR.out _ HW.out
      case hnp => rfl
      case hv => first | exact ⟨_, fun _ => rfl⟩ | exact ⟨undef, fun _ => rfl⟩
      apply obl_detIn
      case hrun =>
        intro D y wz hW hD R hR
        have HRR := Lib.hid hR
        clear hR
        have HW := Lib.hid hW
        have C8 := Lib.hid (HI.out.call HW.out)
        have h1 := (C8.out.bel.cell (p := ⟨b, o + m * 4 + 1, none⟩) HBL.out).trans HXM.out
        clear hW hD
        gi_wp2_with fail
        exact HRR.out _ HW.out
      case hnp => rfl
      case hv => first | exact ⟨_, fun _ => rfl⟩ | exact ⟨undef, fun _ => rfl⟩
      apply obl_detIn
      case hrun =>
        intro D y wz hW hD R hR
        have HRR := Lib.hid hR
        clear hR
        have HW := Lib.hid hW
        clear hW hD
        gi_wp2_with fail
        exact HRR.out _ HW.out
      case hnp => rfl
      case hv => first | exact ⟨_, fun _ => rfl⟩ | exact ⟨undef, fun _ => rfl⟩
      apply obl_detIn
      case hrun =>
        intro D y wz hW hD R hR
        have HRR := Lib.hid hR
        clear hR
        have HW := Lib.hid hW
        clear hW hD
        gi_wp2_with fail
        exact HRR.out _ HW.out
      case hnp => rfl
      case hv => first | exact ⟨_, fun _ => rfl⟩ | exact ⟨undef, fun _ => rfl⟩
      apply obl_nilIn
      intro D y w8 hall hW
      have HW8 := Lib.hid hW
      have C8 := Lib.hid (HI.out.call hW)
      clear hall hW
      by_cases hlt : tk < tm
      · gi_wp2_with (first | (refine wpListIn_cell_bb (o := ⟨none, .store 3 (.tmp 8) (.tmp 45), _, _, _, _⟩) rfl 3 _ _ rfl C8.out 1 (w1.heap.size + 1) 0 _ 3 rfl ?_ (.int .i64 k) ?_ ?_ ?_ ?_ ?_; (exact rfl); (exact rfl); (simp); (exact rfl); (exact info3); intro w9 hC9 hB9; have HC9 : Hid (Bs w1 [(w1.heap.size, .cells #[.pointer (some ⟨g, 0, none⟩)] 96), (w1.heap.size + 1, .cells #[.int .i64 ((k : Int))] 3), (w1.heap.size + 1 + 1, .cells #[.pointer (some ⟨g, 0, none⟩)] 96)] w9) := hC9; have HB9 := Lib.hid hB9; clear hC9 hB9) | fail)
        try simp only [Exit.inBlock]
        obtain ⟨q1, q2⟩ := KF2 w8 w9 HW8.out HB9.out
        refine ⟨q1, q2, ?_⟩
        show Bs w1 [(w1.heap.size, .cells #[.pointer (some ⟨g, 0, none⟩)] 96), (w1.heap.size + 1, .cells #[.int .i64 (thinL s ((pre ++ [(⟨k, hk⟩ : Fin s.wicks.length)]).map Fin.val))] 3), (w1.heap.size + 1 + 1, .cells #[.pointer (some ⟨g, 0, none⟩)] 96)] w9
        rw [HN.out]
        unfold thinStep
        rw [if_pos (.inr (by rw [Int.toNat_natCast, HTK.out, HTM.out]; exact hlt))]
        exact HC9.out
      · gi_wp2_with fail
        try simp only [Exit.inBlock]
        obtain ⟨q1, q2⟩ := KF w8 HW8.out
        refine ⟨(by first | exact q1 | (rw [HZS.out] at q1; exact q1)), q2, ?_⟩
        show Bs w1 [(w1.heap.size, .cells #[.pointer (some ⟨g, 0, none⟩)] 96), (w1.heap.size + 1, .cells #[.int .i64 (thinL s ((pre ++ [(⟨k, hk⟩ : Fin s.wicks.length)]).map Fin.val))] 3), (w1.heap.size + 1 + 1, .cells #[.pointer (some ⟨g, 0, none⟩)] 96)] w8
        rw [HN.out]
        unfold thinStep
        rw [if_neg (by rw [Int.toNat_natCast, HTK.out, HTM.out]; omega)]
        exact C8.out
  case done =>
    intro Dm xs W hD hS hI hDW
    have HT : Hid (thinL s (xs.map Fin.val) = (thinTo s c s.wicks.length)) := by
      unfold Hid
      rw [thinTo_eq, hS, List.map_map]
      congr 1
      rw [List.map_congr_left (g := id)]
      · simp
      · intro i hi
        have : i < s.wicks.length := by unfold suitF at hi; simp at hi; exact hi.1
        simp [Nat.mod_eq_of_lt this]
    have HI : Hid (Bs w1 [(w1.heap.size, .cells #[.pointer (some ⟨g, 0, none⟩)] 96), (w1.heap.size + 1, .cells #[.int .i64 ((thinTo s c s.wicks.length))] 3), (w1.heap.size + 1 + 1, .cells #[.pointer (some ⟨g, 0, none⟩)] 96)] W) := by have h := hI; rw [HT.out] at h; exact h
    have HBW := Lib.hid (C1.out.bel.trans (HI.out.bel.mono C1.out.bel.size))
    have HZW : w.heap.size ≤ w1.heap.size := C1.out.bel.size
    obtain ⟨bt, HBT⟩ : ∃ bt, Hid ((thinTo s c s.wicks.length) = bt) := ⟨_, rfl⟩
    rw [HBT.out] at HI
    have h1 := HI.out.cell 1 rfl 0
    rcases Int.lt_or_le bt 0 with hneg | hpos
    · have hng : ¬ (0 ≤ bt) := by omega
      have HNG := Lib.hid hng
      clear hng
      gi_wp2_with fail
      refine leaves_marks (B := w1.heap.size + 1) ⟨⟨Dm, rfl, by have := HZS.out; omega, hDW, by simp⟩, trivial⟩ (fun w' hck => ?_)
      simp only [LeavesInM, LeavesIn]
      refine ⟨_, results_tmp2 (fn := Tryz.f26) rfl _ _ _, ?_, HBW.out.trans (hck.bel.mono (by omega))⟩
      rw [← HRV.out, ← HEV.out, HBT.out, if_neg (Int.not_le.2 HNG.out), if_neg (Int.not_le.2 HNG.out)]
      rfl
    · have HPP := Lib.hid hpos
      have hpp : ¬ bt < 0 := by omega
      clear hpos
      gi_wp2_with fail
      refine leaves_marks (B := w1.heap.size + 1) ⟨⟨Dm, rfl, by have := HZS.out; omega, hDW, by simp⟩, trivial⟩ (fun w' hck => ?_)
      simp only [LeavesInM, LeavesIn]
      refine ⟨_, results_tmp2 (fn := Tryz.f26) rfl _ _ _, ?_, HBW.out.trans (hck.bel.mono (by omega))⟩
      rw [← HRV.out, ← HEV.out, HBT.out, if_pos HPP.out, if_pos HPP.out]
      rfl
end Go.Proofs.YtpkggjobdmchlaaGreatDoor
