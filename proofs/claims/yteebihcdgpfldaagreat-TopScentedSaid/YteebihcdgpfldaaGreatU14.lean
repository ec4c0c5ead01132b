/- slices.AppendSeq and Collect at the wicks that suit; Suits. -/
import Derived.Test.YteebihcdgpfldaaGreatK7
import Derived.Test.YteebihcdgpfldaaGreatU13
namespace Go.Proofs.YteebihcdgpfldaaGreat
open Go.RowKit Go.Shelf
attribute [local go_sem] Oper.semAt_some
/-- What holds after some wicks: the row. -/
structure ApI (w : World) (pre : List Nat) (W : World) : Prop where
 row : ∃ tv, W.heap[w.heap.size]? = some (.cells #[tv] 54) ∧ W.ownsRow (w.heap.size + 1) 3 1 tv pre.length ((pre.map (fun i : Nat => (i : Int))).map (Value.int .i64))
 bel : Below w.heap.size w W
 size : w.heap.size + 1 ≤ W.heap.size
theorem ApI.stab {w : World} (pre : List Nat) : StabB (ApI w pre) := by
 intro W W' h hb
 obtain ⟨tv, h1, h2⟩ := h.row
 exact ⟨⟨tv, block_keep h1 hb, ownsRow.below h2 hb⟩, h.bel.trans (hb.mono (by have := h.size; omega)), Nat.le_trans h.size hb.size⟩
theorem cells_turn {W : World} {l : Nat} {o o' : Obj} (hl : W.heap[l]? = some o) (hc : o.isCells = false) (k : Nat) (cs : Array Value) (t : TypeId) (fr : Nat × Nat) (h : W.heap[k]? = some (.cells cs t fr)) : (W.putObj l o').heap[k]? = some (.cells cs t fr) := by
 by_cases e : k = l
 ·subst e
  rw [h] at hl
  cases hl
  simp [Obj.isCells] at hc
 ·exact (World.putObj_heap_other e).trans h
theorem ApI.turn {w : World} (pre : List Nat) : Turny (w.heap.size + 1) (ApI w pre) := by
 intro W l o o' hB h hl hc
 obtain ⟨tv, h1, h2⟩ := h.row
 refine ⟨⟨tv, cells_turn hl hc _ _ _ _ h1, ownsRow.keepC h2 (fun k cs t fr hk => cells_turn hl hc k cs t fr hk)⟩, h.bel.trans ⟨rfl, rfl, rfl, by simp [World.putObj], fun k hk => World.putObj_heap_other (by omega)⟩, by simp [World.putObj]; exact h.size⟩
theorem infoLI : (Tryz.prog.info? 54).map (·.size) = some 1 := by kernel_rfl
set_option maxRecDepth 100000 in
set_option maxHeartbeats 8000000 in
theorem appendSeq_ok {s : WShop} {c : Candle} (hs : WOk s c) (va : Option Addr) (vc : Nat) (vx : Value) (g b : Nat) (w : World) (hb : w.heap[b]? = some (.cells #[.pointer (some ⟨g, 0, none⟩)] 119)) (hg : w.heap[g]? = some (.cells (opC (.slice va s.wicks.length vc) vx s c (waxOf s c)) 152)) (hv : WShopAt w.heap.size w (.slice va s.wicks.length vc) vx s) :
 Calls Tryz.prog 97 #[.slice none 0 0, .func (.func 98) #[] #[.pointer (some ⟨b, 0, none⟩)]] w fun e w' => ∃ v, e = .returned v ∧ IntsIn .i64 w'.heap.size w' v (suitsV s c) ∧ Below w.heap.size w w' := by
 obtain ⟨i0, hi0, hz0, hz1, hz2⟩ := info3'
 have HI0 := Lib.hid hi0
 have HZ0 := Lib.hid hz0
 have HZ1 := Lib.hid hz1
 have HZ2 := Lib.hid hz2
 clear hi0 hz0 hz1 hz2
 have HN12 := Lib.hid hs.nw12
 have HSU : Hid (suitsV s c = (suitF s c s.wicks.length).map (fun i : Nat => (i : Int))) := rfl
 have HSL := Lib.hid (suitF_length s c s.wicks.length)
 have HBA : Hid (Below w.heap.size w (w.alloc (.cells #[.slice none 0 0] 54))) := (Below.refl _ _).alloc (Nat.le_refl _) _
 have HZS : Hid ((w.alloc (.cells #[.slice none 0 0] 54)).heap.size = w.heap.size + 1) := by unfold Hid; simp
 have HGV := Lib.hid (suit1_gives (fun i : Nat => #[.int .i64 i]) id hs (fun _ _ => rfl) 2 (by omega) va vc vx g b w.heap.size (w.alloc (.cells #[.slice none 0 0] 54)) (block_keep hb HBA.out) (block_keep hg HBA.out) (hv.below HBA.out) HBA.out.size)
 have HI1 : Hid (ApI w [] (w.alloc (.cells #[.slice none 0 0] 54))) := ⟨⟨.slice none 0 0, heap_alloc_new _ _, World.ownsRow_nil _ _ _ _⟩, HBA.out, by rw [HZS.out]; exact Nat.le_refl _⟩
 have hgl := block_lt hg
 have hbl := block_lt hb
 rw [HSU.out]
 clear HSU hs hb hg hv
 refine (callsIn_wide (n := 3)).1 ?_
 refine callsIn_of_wp_marks Tryz.func97 rfl trivial ?_ rfl
 simp only [Tryz.ntmps97, List.size_toArray, List.length_cons, List.length_nil, Nat.reduceAdd, Nat.reduceSub, Array.replicate_succ, Array.replicate_zero, List.push_toArray, List.append_toArray, List.nil_append, List.cons_append]
 gi_wp2_with fail
 refine wpIn_range_stab (α := Nat) rfl (by omega) (gf := 98) (lb := #[.pointer (some ⟨b, 0, none⟩)]) rfl trivial (enters_of Tryz.func98 (by kernel_rfl) rfl) HGV.out
  (fun h k => SuK.t h k) (SuK.turn (by simp) (by simp; omega) (by simp; omega)) (fun _ => rfl)
  (fun pre W => ApI w pre W) (fun _ _ _ => False) (fun pre => ApI.stab pre) (fun _ _ _ _ h _ => h) (fun pre => by rw [HZS.out]; exact ApI.turn pre) (fun _ _ _ _ _ _ _ h _ _ => h) HI1.out
  (fun x a' _ => a' = { tmps := #[.slice none 0 0, .func (.func 98) #[] #[.pointer (some ⟨b, 0, none⟩)], .pointer (some ⟨w.heap.size, 0, none⟩), undef, .slice none 0 0, .int .i64 x, .func (.func 98) #[] #[.pointer (some ⟨b, 0, none⟩)], .int .i64 x, undef, undef, undef, undef, undef], defers := [] }) (fun x a' W l o o' h _ _ _ => h) ?assign ?body ?done ?stop
 case stop =>
  intro D c pre W _ _ h _
  exact h.elim
 case assign =>
  intro lp pre x W K hI hszV hK
  have HK := Lib.hid hK
  have HI := Lib.hid hI
  clear hK hI
  gi_wp2_with fail
  exact HK.out _ _ ⟨Nat.le_refl _, fun _ _ _ h _ => h⟩ (SuK.refl _ _ _ _) HI.out rfl
 case body =>
  rintro lp pre x a' W hszW hI rfl hlen
  obtain ⟨tv, h1, h2⟩ := hI.row
  have HR := Lib.hid h2
  have HB := Lib.hid h1
  have HBL := Lib.hid hI.bel
  have HS := Lib.hid hI.size
  obtain ⟨ra, rc, rfl⟩ := ownsRow_slice h2
  have c0 := cell_of_row _ _ 0 _ _ _ HB.out
  have hs1 := HS.out
  clear h1 h2 hI
  gi_wp2_with (first | (refine wpListIn_append_own (o := ⟨some 11, _, _, _, _, _⟩) (W.alloc (.cells #[.int .i64 x] 3)) rfl _ _ 54 rfl (w.heap.size + 1) 3 i0 (.int .i64 0) 1 8 Tryz.underlying54 HI0.out HZ0.out HZ1.out HZ2.out rfl (by decide) (.slice ra pre.length rc) pre.length ((pre.map (fun i : Nat => (i : Int))).map (Value.int .i64)) ?_ ?_ ⟨W.heap.size, 0, none⟩ 1 1 [.int .i64 x] ?_ ?_ ?_ ?_ ?_ ?_ ?_ ?_; (exact rfl); (exact HR.out.alloc _); (exact rfl); (exact rfl); (exact cell_news _ _ _ _ (heap_alloc_new _ _)); (exact one_int _); (unfold maxLen; omega); omega; (simp; omega); intro v' w8 hown hgrow _; obtain ⟨ra', rc', rfl⟩ := ownsRow_slice hown; have HO8 := Lib.hid hown; have HBW8 := Lib.hid ((HBL.out.alloc (by omega) (.cells #[.int .i64 x] 3)).grown hgrow (by simp; omega) (fun k e => by have := (HR.out.lt k e).1; omega)); have HNK := Lib.hid ((NonK.below ((Below.refl W.heap.size W).alloc (Nat.le_refl _) (.cells #[.int .i64 x] 3))).trans (NonK.grown (HR.out.alloc (.cells #[.int .i64 x] 3)) hgrow)); have HC8 : Hid (w8.heap[w.heap.size]? = some (.cells #[.slice ra pre.length rc] 54)) := (hgrow.block w.heap.size (by simp; omega) (fun e => by have := (HR.out.lt _ e.symm).1; omega)).trans (block_keep HB.out ((Below.refl _ _).alloc (Nat.le_refl _) _)); have HZ8 : Hid (W.heap.size ≤ w8.heap.size) := (by have h1 := hgrow.size; unfold Hid; simp at h1; omega); clear hown hgrow c0; have C8 := Lib.hid (Bs.snoc (l := []) (w := w) ⟨by simp, by simp, by simp, HBW8.out⟩ (by simp) HC8.out (Nat.le_refl _))) | (refine wpListIn_cell_bb (o := ⟨none, .store 54 (.tmp 2) (.tmp 11), _, _, _, _⟩) rfl 54 _ _ rfl C8.out 0 w.heap.size 0 _ _ rfl ?_ (.slice ra' (pre.length + 1) rc') ?_ ?_ ?_ ?_ ?_; (exact rfl); (exact rfl); (simp); (exact rfl); (exact infoLI); intro w9 hC9 hB9; have HC9 := Lib.hid (hC9.get 0 rfl); have HBW9 := Lib.hid hC9.bel; have HB9 := Lib.hid hB9; clear hC9 hB9 C8) | fail)
  try simp only [Exit.inBlock]
  have hz9 : W.heap.size ≤ w9.heap.size := Nat.le_trans HZ8.out HB9.out.size
  refine ⟨⟨hz9, fun q o hq hqo hnc => ?_⟩, ⟨hz9, ⟨HBW9.out.os.trans HBL.out.os.symm, HBW9.out.tape.trans HBL.out.tape.symm, HBW9.out.output.trans HBL.out.output.symm, hz9, fun k hk => (HBW9.out.block k hk).trans (HBL.out.block k hk).symm⟩, (HBW9.out.block g hgl).trans (HBL.out.block g hgl).symm, (HBW9.out.block b hbl).trans (HBL.out.block b hbl).symm⟩, ⟨⟨_, HC9.out, ?_⟩, HBW9.out, by omega⟩⟩
  ·have h8 := HNK.out q o hqo hnc
   by_cases e : q = w.heap.size
   ·subst e
    rw [HC8.out] at h8
    cases h8
    simp [Obj.isCells] at hnc
   ·exact (HB9.out.block q (block_lt h8) e).trans h8
  ·have h9 := ownsRow.but HO8.out HB9.out HC8.out (by decide)
   rw [List.length_append, List.map_append, List.map_append]
   exact h9
 case done =>
  intro Dm xs W hD hS hI hDW
  obtain ⟨tv, h1, h2⟩ := hI.row
  have HR := Lib.hid h2
  have HB := Lib.hid h1
  have HBL := Lib.hid hI.bel
  obtain ⟨ra, rc, rfl⟩ := ownsRow_slice h2
  have c0 := cell_of_row _ _ 0 _ _ _ HB.out
  clear h1 h2 hI
  gi_wp2_with fail
  refine leaves_marks (B := w.heap.size + 1) ⟨⟨Dm, rfl, by rw [HZS.out] at hD; exact hD, hDW, by simp⟩, trivial⟩ (fun w' hck => ?_)
  simp only [LeavesInM, LeavesIn]
  rw [List.map_id] at hS
  have hxl : xs.length ≤ 12 := by rw [hS]; have := HSL.out; have := HN12.out; omega
  refine ⟨_, results_tmp rfl _ _ _, _, rfl, ?_, HBL.out.trans (hck.bel.mono (by omega))⟩
  have h2 := (ownsRow_ints (l := xs.map (fun i : Nat => (i : Int))) (by rw [List.length_map]; exact ownsRow.keepC HR.out hck.cells) (by rw [List.length_map]; omega)).1
  rw [← hS]
  exact h2
end Go.Proofs.YteebihcdgpfldaaGreat
