/- store.Fate. -/
import Derived.Test.YtddapabmfecidaaW18
import Derived.Test.YtddapabmfecidaaW19
import Derived.Handy
namespace Go.Proofs.Ytddapabmfecidaa
open Go.RowKit Go.Shelf
attribute [local go_sem] Oper.semAt_some

/-- On which day candles bend and bloom. -/
def bendAt (be days : Int) : List Int → Int → Nat → Int
  | [], _, _ => -1
  | x :: t, h, d => if bendN be x h = days then (d : Int) else bendAt be days t (bendN be x h) (d + 1)
def bloomAt (jm times : Int) : List Int → Int → Int → Nat → Int
  | [], _, _, _ => -1
  | x :: t, y, j, d => if jumpB jm y x then (if j + 1 = times then (d : Int) else bloomAt jm times t x (j + 1) (d + 1)) else bloomAt jm times t x j (d + 1)
def bloomF (jm times : Int) : List Int → Int
  | [] => -1
  | x :: t => bloomAt jm times t x 0 1
/-- Does the warmth lie outside of its span on one of the first k days? -/
def outTo (s : Sea) (way warm : List Int) (k : Nat) : Bool := (List.range k).any fun d => outB (s.at (way.getD d 0).toNat d).1 (s.at (way.getD d 0).toNat d).2 [warm.getD d 0]
def fateV (s : Sea) (way warm : List Int) : Int × Int × Int :=
  if openE s way = 0 then (if warm.length = way.length then (if outTo s way warm way.length then (0, 0, 7) else (bendAt s.bend s.days warm 0 0, bloomF s.jump s.times warm, 0)) else (0, 0, 3)) else (0, 0, openE s way)

theorem results_cell2 {fn : Func} {p q : Tmp} {ty tz : TypeId} (h : fn.results = #[.cell p ty, .cell q tz]) (tmps : Array Value) (P : Program) (w : World) :
    (results fn tmps).run P w =
      ((asAddr (tmps.getD p undef)).run P w).andThen fun a w₁ => ((loadVar ty a).run P w₁).andThen fun x w₂ => ((asAddr (tmps.getD q undef)).run P w₂).andThen fun b w₃ => ((loadVar tz b).run P w₃).andThen fun y w₄ => .ok (.tuple #[x, y]) w₄ := by
  simp only [results, h]
  simp [Sem.run_bind, Result.andThen]
theorem info23 : (Try.prog.info? 23).map (·.size) = some 2 := by kernel_rfl

theorem fate_ret {w : World} {b6 b7 : Nat} {f1 f2 e : Int} (h6 : w.heap[b6]? = some (.cells #[.int .i64 f1, .int .i64 f2] 23)) (h7 : w.heap[b7]? = some (.cells #[.int .i64 e] 24)) (tmps : Array Value)
    (t6 : tmps.getD 6 undef = .pointer (some ⟨b6, 0, none⟩)) (t7 : tmps.getD 7 undef = .pointer (some ⟨b7, 0, none⟩)) :
    (results Try.f14 tmps).run Try.prog w = .ok (.tuple #[.agg #[.int .i64 f1, .int .i64 f2], .int .i64 e]) w := by
  have c7 := cell_of_row w _ 0 _ _ _ h7
  have r6 := run_loadVar_row (P := Try.prog) w b6 23 23 #[.int .i64 f1, .int .i64 f2] (0, 0) _ h6 Try.underlying23 rfl info23
  rw [results_cell2 (fn := Try.f14) rfl, t6, t7]
  simp only [asAddr, Sem.run_pure, Result.andThen_ok, r6]
  simp [go_sem, c7]

/-- The blocks of Fate. -/
structure FI (w : World) (b5 b6 b7 b8 bs : Nat) (S : Array Value) (wv : Value) (x : Int × Int × Int) (W : World) : Prop where
  r5 : W.heap[b5]? = some (.cells #[wv] 33)
  r6 : W.heap[b6]? = some (.cells #[.int .i64 x.1, .int .i64 x.2.1] 23)
  r7 : W.heap[b7]? = some (.cells #[.int .i64 x.2.2] 24)
  r8 : W.heap[b8]? = some (.cells S 75)
  rs : W.heap[bs]? = some (.cells S 75)
  bel : Below w.heap.size w W

theorem FI.call {w : World} {b5 b6 b7 b8 bs : Nat} {S : Array Value} {wv : Value} {x : Int × Int × Int} {W W' : World} (h : FI w b5 b6 b7 b8 bs S wv x W) (hb : Below W.heap.size W W') : FI w b5 b6 b7 b8 bs S wv x W' :=
  ⟨block_keep h.r5 hb, block_keep h.r6 hb, block_keep h.r7 hb, block_keep h.r8 hb, block_keep h.rs hb, h.bel.trans (hb.mono h.bel.size)⟩
theorem four_allocs (w : World) (a b c d : Obj) : ((((w.alloc a).alloc b).alloc c).alloc d).heap[w.heap.size]? = some a ∧ ((((w.alloc a).alloc b).alloc c).alloc d).heap[w.heap.size + 1]? = some b ∧ ((((w.alloc a).alloc b).alloc c).alloc d).heap[w.heap.size + 1 + 1]? = some c ∧
    ((((w.alloc a).alloc b).alloc c).alloc d).heap[w.heap.size + 1 + 1 + 1]? = some d := by
  have h := five_allocs w a b c d a
  have k : ∀ {x : World} {i : Nat} {o p : Obj}, i < x.heap.size → (x.alloc p).heap[i]? = some o → x.heap[i]? = some o := fun {x} {i} {o p} hi h => (Below.heap_alloc x p i hi).symm.trans h
  have hs : ((((w.alloc a).alloc b).alloc c).alloc d).heap.size = w.heap.size + 4 := by simp only [World.size_alloc]
  exact ⟨k (by omega) h.1.1, k (by omega) h.1.2, k (by omega) h.2.1, k (by omega) h.2.2.1⟩

set_option maxRecDepth 100000 in
set_option maxHeartbeats 4000000 in
theorem fate_bad (s : Sea) (vs wv uv : Value) (way warm : List Int) (w : World) (hv : StosIn w.heap.size w vs s.stores) (hw : IntsIn .i64 w.heap.size w wv way) (hu : IntsIn .i64 w.heap.size w uv warm) (e : Int) (he : openE s way = e) (hz : e ≠ 0) :
    Calls Try.prog 14 #[.agg #[.int .i64 s.bend, .int .i64 s.days, .int .i64 s.jump, .int .i64 s.times, .int .i64 s.move, vs], wv, uv] w
      fun e' w' => e' = .returned (.tuple #[.agg #[.int .i64 0, .int .i64 0], .int .i64 e]) ∧ Below w.heap.size w w' := by
  have HV := Lib.hid hv
  have HWV := Lib.hid hw
  have HUV := Lib.hid hu
  obtain ⟨a, c, rfl, hll, hlc, hvv⟩ := hv
  obtain ⟨aw, cw, rfl, hwl, hwv⟩ := hw
  obtain ⟨au, cu, rfl, hul, huv⟩ := hu
  clear hwv hvv huv
  have HE := Lib.hid he
  clear he
  have hzz : (e != 0) = true := by simpa using hz
  clear hz
  have R0 := Lib.hid (four_allocs w (.cells #[.int .i64 s.bend, .int .i64 s.days, .int .i64 s.jump, .int .i64 s.times, .int .i64 s.move, .slice a s.stores.length c] 31) (.cells #[.slice au warm.length cu] 33) (.cells #[.int .i64 0, .int .i64 0] 23) (.cells #[.int .i64 0] 24))
  have C0 := Lib.hid (((((Below.refl w.heap.size w).alloc (Nat.le_refl _) (.cells #[.int .i64 s.bend, .int .i64 s.days, .int .i64 s.jump, .int .i64 s.times, .int .i64 s.move, .slice a s.stores.length c] 31)).alloc (by simp) (.cells #[.slice au warm.length cu] 33)).alloc (by simp; omega) (.cells #[.int .i64 0, .int .i64 0] 23)).alloc (by simp; omega) (.cells #[.int .i64 0] 24))
  go_enter Try.func14, Try.ntmps14
  go_wp2_with fail
  refine (open_any s _ _ way _ ((HV.out.below C0.out).mono C0.out.size) ((HWV.out.below C0.out).mono C0.out.size)).mono ?_
  rintro e' w1 ⟨rfl, hbw⟩
  have C1 := Lib.hid (C0.out.trans (hbw.mono C0.out.size))
  have R5 := Lib.hid (block_keep R0.out.2.1 hbw)
  have R6 := Lib.hid (block_keep R0.out.2.2.1 hbw)
  have R7 := Lib.hid (block_keep R0.out.2.2.2 hbw)
  clear hbw C0 R0
  rw [HE.out]
  have c7 := cell_of_row w1 _ 0 _ _ _ R7.out
  have f7 := frozen_of_row w1 _ 0 _ _ R7.out
  have hsz1 : w.heap.size + 1 + 1 + 1 < w1.heap.size := block_lt R7.out
  go_wp2_with fail
  have R6a : Hid (((w1.setCell ⟨w.heap.size + 1 + 1 + 1, 0, none⟩ (.int .i64 e)).alloc (.cells #[.int .i64 s.bend, .int .i64 s.days, .int .i64 s.jump, .int .i64 s.times, .int .i64 s.move, .slice a s.stores.length c] 75)).heap[w.heap.size + 1 + 1]? = some (.cells #[.int .i64 0, .int .i64 0] 23)) := (Below.heap_alloc _ _ _ (by simp only [World.size_setCell]; omega)).trans ((heap_setCell_other _ _ _ _ (show w.heap.size + 1 + 1 ≠ w.heap.size + 1 + 1 + 1 by omega)).trans R6.out)
  have R7a : Hid (((w1.setCell ⟨w.heap.size + 1 + 1 + 1, 0, none⟩ (.int .i64 e)).alloc (.cells #[.int .i64 s.bend, .int .i64 s.days, .int .i64 s.jump, .int .i64 s.times, .int .i64 s.move, .slice a s.stores.length c] 75)).heap[w.heap.size + 1 + 1 + 1]? = some (.cells #[.int .i64 e] 24)) := (Below.heap_alloc _ _ _ (by simp only [World.size_setCell]; omega)).trans (setCell_row R7.out)
  have C2 : Hid (Below w.heap.size w ((w1.setCell ⟨w.heap.size + 1 + 1 + 1, 0, none⟩ (.int .i64 e)).alloc (.cells #[.int .i64 s.bend, .int .i64 s.days, .int .i64 s.jump, .int .i64 s.times, .int .i64 s.move, .slice a s.stores.length c] 75))) := (C1.out.setCell (p := ⟨w.heap.size + 1 + 1 + 1, 0, none⟩) (by simp; omega) _).alloc (by simp only [World.size_setCell]; omega) _
  generalize (w1.setCell ⟨w.heap.size + 1 + 1 + 1, 0, none⟩ (.int .i64 e)).alloc (.cells #[.int .i64 s.bend, .int .i64 s.days, .int .i64 s.jump, .int .i64 s.times, .int .i64 s.move, .slice a s.stores.length c] 75) = w2 at R6a R7a C2 ⊢
  clear c7 f7
  refine wp_region_inv0 (by kernel_rfl) (by kernel_rfl) (fun _ w' => w'.heap[w.heap.size + 1 + 1]? = some (.cells #[.int .i64 0, .int .i64 0] 23) ∧ w'.heap[w.heap.size + 1 + 1 + 1]? = some (.cells #[.int .i64 e] 24) ∧ Below w.heap.size w w') ⟨R6a.out, R7a.out, C2.out.drew⟩ ?_
  apply obl_det
  case hrun =>
    intro D y wz hW hD R hR
    have HRR := Lib.hid hR
    have HW := Lib.hid hW
    clear hR hD hW
    go_wp2_with (refine wpList_load_row rfl 23 _ rfl _ rfl _ _ _ _ HW.out.1 Try.underlying23 rfl info23 ?_)
    exact HRR.out _ HW.out
  case hnp => rfl
  case hv => first | exact ⟨_, fun _ => rfl⟩ | exact ⟨undef, fun _ => rfl⟩
  apply obl_det
  case hrun =>
    intro D y wz hW hD R hR
    have HRR := Lib.hid hR
    have HW := Lib.hid hW
    clear hR hD
    have c7 := cell_of_row wz _ 0 _ _ _ hW.2.1
    clear hW
    go_wp2
    exact HRR.out _ HW.out
  case hnp => rfl
  case hv => first | exact ⟨_, fun _ => rfl⟩ | exact ⟨undef, fun _ => rfl⟩
  apply obl_det
  case hrun =>
    intro D y wz hW hD R hR
    have HRR := Lib.hid hR
    have HW := Lib.hid hW
    clear hR hD hW
    go_wp2_with (refine wpList_store_row rfl 23 _ _ rfl _ #[.int .i64 0, .int .i64 0] rfl rfl _ _ HW.out.1 info23 rfl (by simp [Value.oneCell']) ?_)
    exact HRR.out _ ⟨setRow_heap _ _ _ _ _ _ HW.out.1, (setRow_other _ _ _ _ (by omega)).trans HW.out.2.1, below_setRow HW.out.2.2 (by omega) _⟩
  case hnp => rfl
  case hv => first | exact ⟨_, fun _ => rfl⟩ | exact ⟨undef, fun _ => rfl⟩
  apply obl_det
  case hrun =>
    intro D y wz hW hD R hR
    have HRR := Lib.hid hR
    have HW := Lib.hid hW
    clear hR hD
    have c7 := cell_of_row wz _ 0 _ _ _ hW.2.1
    have f7 := frozen_of_row wz _ 0 _ _ hW.2.1
    clear hW
    go_wp2
    exact HRR.out _ ⟨(heap_setCell_other _ _ _ _ (show w.heap.size + 1 + 1 ≠ w.heap.size + 1 + 1 + 1 by omega)).trans HW.out.1, setCell_row HW.out.2.1, HW.out.2.2.setCell (p := ⟨w.heap.size + 1 + 1 + 1, 0, none⟩) (by simp; omega) _⟩
  case hnp => rfl
  case hv => first | exact ⟨_, fun _ => rfl⟩ | exact ⟨undef, fun _ => rfl⟩
  apply obl_nil
  intro D y w8 hall hW
  have HW8 := Lib.hid hW
  clear hW hall
  simp only [Exit.then]
  go_wp2_with fail
  exact bodyPost_ret (v := .tuple #[.agg #[.int .i64 0, .int .i64 0], .int .i64 e]) (fate_ret HW8.out.1 HW8.out.2.1 _ rfl rfl) rfl ⟨rfl, HW8.out.2.2⟩
set_option maxRecDepth 100000 in
set_option maxHeartbeats 4000000 in
theorem fate_len (s : Sea) (vs wv uv : Value) (way warm : List Int) (w : World) (hv : StosIn w.heap.size w vs s.stores) (hw : IntsIn .i64 w.heap.size w wv way) (hu : IntsIn .i64 w.heap.size w uv warm) (he : openE s way = 0) (hz : warm.length ≠ way.length) :
    Calls Try.prog 14 #[.agg #[.int .i64 s.bend, .int .i64 s.days, .int .i64 s.jump, .int .i64 s.times, .int .i64 s.move, vs], wv, uv] w
      fun e' w' => e' = .returned (.tuple #[.agg #[.int .i64 0, .int .i64 0], .int .i64 3]) ∧ Below w.heap.size w w' := by
  have HV := Lib.hid hv
  have HWV := Lib.hid hw
  have HUV := Lib.hid hu
  obtain ⟨a, c, rfl, hll, hlc, hvv⟩ := hv
  obtain ⟨aw, cw, rfl, hwl, hwv⟩ := hw
  obtain ⟨au, cu, rfl, hul, huv⟩ := hu
  clear hwv hvv huv
  have HE := Lib.hid he
  clear he
  have hzz : ((warm.length : Int) != (way.length : Int)) = true := by simp; omega
  have R0 := Lib.hid (four_allocs w (.cells #[.int .i64 s.bend, .int .i64 s.days, .int .i64 s.jump, .int .i64 s.times, .int .i64 s.move, .slice a s.stores.length c] 31) (.cells #[.slice au warm.length cu] 33) (.cells #[.int .i64 0, .int .i64 0] 23) (.cells #[.int .i64 0] 24))
  have C0 := Lib.hid (((((Below.refl w.heap.size w).alloc (Nat.le_refl _) (.cells #[.int .i64 s.bend, .int .i64 s.days, .int .i64 s.jump, .int .i64 s.times, .int .i64 s.move, .slice a s.stores.length c] 31)).alloc (by simp) (.cells #[.slice au warm.length cu] 33)).alloc (by simp; omega) (.cells #[.int .i64 0, .int .i64 0] 23)).alloc (by simp; omega) (.cells #[.int .i64 0] 24))
  go_enter Try.func14, Try.ntmps14
  go_wp2_with fail
  refine (open_any s _ _ way _ ((HV.out.below C0.out).mono C0.out.size) ((HWV.out.below C0.out).mono C0.out.size)).mono ?_
  rintro e' w1 ⟨rfl, hbw⟩
  have C1 := Lib.hid (C0.out.trans (hbw.mono C0.out.size))
  have R5 := Lib.hid (block_keep R0.out.2.1 hbw)
  have R6 := Lib.hid (block_keep R0.out.2.2.1 hbw)
  have R7 := Lib.hid (block_keep R0.out.2.2.2 hbw)
  clear hbw C0 R0
  rw [HE.out]
  have c7 := cell_of_row w1 _ 0 _ _ _ R7.out
  have f7 := frozen_of_row w1 _ 0 _ _ R7.out
  have hsz1 : w.heap.size + 1 + 1 + 1 < w1.heap.size := block_lt R7.out
  go_upto_region 2 with fail
  refine wp_world (fun W => FI w (w.heap.size + 1) (w.heap.size + 1 + 1) (w.heap.size + 1 + 1 + 1) w1.heap.size w1.heap.size #[.int .i64 s.bend, .int .i64 s.days, .int .i64 s.jump, .int .i64 s.times, .int .i64 s.move, .slice a s.stores.length c] (.slice au warm.length cu) (0, 0, 0) W) ?_ ?_
  · refine ⟨?_, ?_, ?_, ?_, ?_, (C1.out.setCell (p := ⟨w.heap.size + 1 + 1 + 1, 0, none⟩) (by simp; omega) _).alloc (by simp only [World.size_setCell]; omega) _⟩
    · exact (Below.heap_alloc _ _ _ (by simp only [World.size_setCell]; omega)).trans ((heap_setCell_other _ _ _ _ (show w.heap.size + 1 ≠ w.heap.size + 1 + 1 + 1 by omega)).trans R5.out)
    · exact (Below.heap_alloc _ _ _ (by simp only [World.size_setCell]; omega)).trans ((heap_setCell_other _ _ _ _ (show w.heap.size + 1 + 1 ≠ w.heap.size + 1 + 1 + 1 by omega)).trans R6.out)
    · exact (Below.heap_alloc _ _ _ (by simp only [World.size_setCell]; omega)).trans (setCell_row R7.out)
    · simpa using heap_alloc_new (w1.setCell ⟨w.heap.size + 1 + 1 + 1, 0, none⟩ (.int .i64 0)) (.cells #[.int .i64 s.bend, .int .i64 s.days, .int .i64 s.jump, .int .i64 s.times, .int .i64 s.move, .slice a s.stores.length c] 75)
    · simpa using heap_alloc_new (w1.setCell ⟨w.heap.size + 1 + 1 + 1, 0, none⟩ (.int .i64 0)) (.cells #[.int .i64 s.bend, .int .i64 s.days, .int .i64 s.jump, .int .i64 s.times, .int .i64 s.move, .slice a s.stores.length c] 75)
  intro w2 hF
  have HF := Lib.hid hF
  clear c7 f7 hF
  have c7 := cell_of_row w2 _ 0 _ _ _ HF.out.r7
  have f7 := frozen_of_row w2 _ 0 _ _ HF.out.r7
  have c5 := cell_of_row w2 _ 0 _ _ _ HF.out.r5
  go_wp2_with (first | (refine wpList_load_row rfl 23 _ rfl _ rfl _ _ _ _ HF.out.r6 Try.underlying23 rfl info23 ?_) | (refine wpList_store_row rfl 23 _ _ rfl _ #[.int .i64 0, .int .i64 0] rfl rfl _ _ HF.out.r6 info23 rfl (by simp [Value.oneCell']) ?_; rw [setRow_self HF.out.r6]))
  exact bodyPost_ret (v := .tuple #[.agg #[.int .i64 0, .int .i64 0], .int .i64 3]) (fate_ret ((heap_setCell_other _ _ _ _ (show w.heap.size + 1 + 1 ≠ w.heap.size + 1 + 1 + 1 by omega)).trans HF.out.r6) (setCell_row HF.out.r7) _ rfl rfl) rfl ⟨rfl, HF.out.bel.setCell (p := ⟨w.heap.size + 1 + 1 + 1, 0, none⟩) (by simp; omega) _⟩
end Go.Proofs.Ytddapabmfecidaa
