/- store.Fate, on good data. -/
import Derived.Test.YtddapabmfecidaaW20
import Derived.Sort.CutIn
namespace Go.Proofs.Ytddapabmfecidaa
open Go.RowKit Go.Shelf
attribute [local go_sem] Oper.semAt_some

abbrev sp (s : Sea) (way : List Int) (d : Nat) : Int × Int := s.at (way.getD d 0).toNat d
def encF (s : Sea) (way : List Int) (x : Fin way.length) : Array Value := #[.int .i64 (x.1 : Int), .agg #[.int .i64 (sp s way x.1).1, .int .i64 (sp s way x.1).2]]
def dayF (way : List Int) (h : 0 < way.length) (k : Nat) : Fin way.length := if h' : k < way.length then ⟨k, h'⟩ else ⟨0, h⟩
/-- No day so far was out of its span. -/
def okF (s : Sea) (way warm : List Int) (pre : List (Fin way.length)) : Prop := ∀ x ∈ pre, outB (sp s way x.1).1 (sp s way x.1).2 [warm.getD x.1 0] = false
theorem okF_all (s : Sea) (way warm : List Int) (h : 0 < way.length) : okF s way warm (upA (dayF way h) way.length) → outTo s way warm way.length = false := by
  intro hk
  unfold outTo
  rw [List.any_eq_false]
  intro d hd
  rw [List.mem_range] at hd
  have := hk (dayF way h d) (List.mem_map.2 ⟨d, List.mem_range.2 hd, rfl⟩)
  unfold dayF at this
  rw [dif_pos hd] at this
  simp only [sp] at this
  rw [this]; simp
theorem okF_not (s : Sea) (way warm : List Int) (h : 0 < way.length) (k : Nat) (_hk : k ≤ way.length) : ¬ okF s way warm (upA (dayF way h) k) → outTo s way warm way.length = true := by
  intro hk
  unfold outTo
  rw [List.any_eq_true]
  unfold okF at hk
  rw [Classical.not_forall] at hk
  obtain ⟨x, hx⟩ := hk
  rw [Classical.not_imp] at hx
  exact ⟨x.1, List.mem_range.2 x.2, by have := hx.2; simp only [sp] at this; simpa only [Bool.not_eq_false] using this⟩

theorem FI.own {w : World} {b5 b6 b7 b8 bs : Nat} {S : Array Value} {wv : Value} {B : Nat} (hB : w.heap.size ≤ B) {x : Int × Int × Int} {β : Type} (C : β → Prop) : OwnFrom B (fun (b : β) W => FI w b5 b6 b7 b8 bs S wv x W ∧ C b) := by
  intro b X Y row hs hg hr
  obtain ⟨hs, hC⟩ := hs
  have row_kept : ∀ {b : Nat} {cs : Array Value} {t : TypeId}, X.heap[b]? = some (.cells cs t) → Y.heap[b]? = some (.cells cs t) := by
    intro b cs t h
    refine (hg.block b (block_lt h) ?_).trans h
    intro e
    obtain ⟨_, o, ho, hc⟩ := hr b e.symm
    rw [h] at ho; cases ho; simp [Obj.isCells] at hc
  exact ⟨⟨row_kept hs.r5, row_kept hs.r6, row_kept hs.r7, row_kept hs.r8, row_kept hs.rs, ownFrom_below (β := Unit) (Nat.le_refl _) hB () X Y row hs.bel hg hr⟩, hC⟩

theorem intsIn_row {w : World} {g : Nat} {l : List Int} {n : Nat} (h : w.heap[g]? = some (.cells (ints l) 3)) (hl : l.length ≤ 1000) : IntsIn .i64 w.heap.size w (.slice (some ⟨g, 0, none⟩) l.length n) l :=
  ⟨_, _, rfl, by omega, .inr ⟨g, 0, rfl, block_lt h, fun i hi => by rw [cell_of_row w _ (0 + i) _ _ _ h, Nat.zero_add, ints_get l i hi]⟩⟩
theorem FI.set7 {w : World} {b5 b6 b7 b8 bs : Nat} {S : Array Value} {wv : Value} {f1 f2 e : Int} {W : World} (h : FI w b5 b6 b7 b8 bs S wv (f1, f2, e) W) (m : Int) (h5 : b5 ≠ b7) (h6 : b6 ≠ b7) (h8 : b8 ≠ b7) (hs : bs ≠ b7) (hw : w.heap.size ≤ b7) :
    FI w b5 b6 b7 b8 bs S wv (f1, f2, m) (W.setCell ⟨b7, 0, none⟩ (.int .i64 m)) :=
  ⟨(heap_setCell_other _ _ _ _ h5).trans h.r5, (heap_setCell_other _ _ _ _ h6).trans h.r6, setCell_row h.r7, (heap_setCell_other _ _ _ _ h8).trans h.r8, (heap_setCell_other _ _ _ _ hs).trans h.rs, h.bel.setCell (p := ⟨b7, 0, none⟩) hw _⟩
/-- The worlds of a round's first region. -/
structure FB (w W : World) (b5 b6 b7 b8 bs Bx bu ou : Nat) (S : Array Value) (wv : Value) (lo hi x : Int) (D : Nat → Bool) (W' : World) : Prop where
  fi : FI w b5 b6 b7 b8 bs S wv (0, 0, 0) W'
  ko : KeepsOthers W W'
  bw : Below w.heap.size W W'
  bx : W'.heap[Bx]? = some (.cells #[.int .i64 lo, .int .i64 hi] 53)
  cu : W'.cell? ⟨bu, ou, none⟩ = some (.int .i64 x)
  s0 : D 8 = false → W'.heap.size = W.heap.size
  s1 : D 8 = true → W'.heap[W.heap.size]? = some (.cells (ints [x]) 3)
theorem FB.same {w W : World} {b5 b6 b7 b8 bs Bx bu ou : Nat} {S : Array Value} {wv : Value} {lo hi x : Int} {D D' : Nat → Bool} {W' : World} (h : FB w W b5 b6 b7 b8 bs Bx bu ou S wv lo hi x D W') (hD : D' 8 = D 8) : FB w W b5 b6 b7 b8 bs Bx bu ou S wv lo hi x D' W' :=
  ⟨h.fi, h.ko, h.bw, h.bx, h.cu, by rw [hD]; exact h.s0, by rw [hD]; exact h.s1⟩
theorem FB.call {w W : World} {b5 b6 b7 b8 bs Bx bu ou : Nat} {S : Array Value} {wv : Value} {lo hi x : Int} {D D' : Nat → Bool} {W' W'' : World} (h : FB w W b5 b6 b7 b8 bs Bx bu ou S wv lo hi x D W') (hD : D 8 = true) (hD' : D' 8 = true) (hb : Below W'.heap.size W' W'') : FB w W b5 b6 b7 b8 bs Bx bu ou S wv lo hi x D' W'' :=
  ⟨h.fi.call hb, h.ko.trans (Below.others hb), h.bw.trans (hb.mono h.fi.bel.size), block_keep h.bx hb, (hb.cell (p := ⟨bu, ou, none⟩) (cell_lt h.cu)).trans h.cu, (by rw [hD']; simp), fun _ => block_keep (h.s1 hD) hb⟩
theorem FB.alloc {w W : World} {b5 b6 b7 b8 bs Bx bu ou : Nat} {S : Array Value} {wv : Value} {lo hi x : Int} {D D' : Nat → Bool} {W' : World} (h : FB w W b5 b6 b7 b8 bs Bx bu ou S wv lo hi x D W') (hD : D 8 = false) (hD' : D' 8 = true) : FB w W b5 b6 b7 b8 bs Bx bu ou S wv lo hi x D' (W'.alloc (.cells (ints [x]) 3)) :=
  have hb : Below W'.heap.size W' (W'.alloc (.cells (ints [x]) 3)) := (Below.refl _ _).alloc (Nat.le_refl _) _
  ⟨h.fi.call hb, h.ko.trans (Below.others hb), h.bw.trans (hb.mono h.fi.bel.size), block_keep h.bx hb, (hb.cell (p := ⟨bu, ou, none⟩) (cell_lt h.cu)).trans h.cu, (by rw [hD']; simp), fun _ => by rw [← h.s0 hD]; exact heap_alloc_new _ _⟩

theorem na82 (b : Nat) (w : World) : (nilAhead 243 82 (.pointer (some ⟨b, 0, none⟩)) ((((Try.prog.info? 82).bind (fun u => u.methods[0]?)).map (·.name)).getD "")).run Try.prog w = .ok (some false) w := by kernel_rfl
theorem na85 (b : Nat) (w : World) : (nilAhead 243 85 (.pointer (some ⟨b, 0, none⟩)) ((((Try.prog.info? 82).bind (fun u => u.methods[0]?)).map (·.name)).getD "")).run Try.prog w = .ok (some false) w := by kernel_rfl
theorem me82 (b : Nat) (w : World) : (method 243 82 (.pointer (some ⟨b, 0, none⟩)) ((((Try.prog.info? 82).bind (fun u => u.methods[0]?)).map (·.name)).getD "")).run Try.prog w = .ok (80, .pointer (some ⟨b, 0, none⟩)) w := by kernel_rfl
theorem me85 (b : Nat) (w : World) : (method 243 85 (.pointer (some ⟨b, 0, none⟩)) ((((Try.prog.info? 82).bind (fun u => u.methods[0]?)).map (·.name)).getD "")).run Try.prog w = .ok (81, .pointer (some ⟨b, 0, none⟩)) w := by kernel_rfl
theorem ta82 (b : Nat) (w : World) : (Instr.typeAssert (.iface 82 (.pointer (some ⟨b, 0, none⟩))) 90 82 true).run Try.prog w = .ok (.tuple #[.pointer (some ⟨b, 0, none⟩), .bool true]) w := by kernel_rfl
theorem ta85n (b : Nat) (w : World) : (Instr.typeAssert (.iface 85 (.pointer (some ⟨b, 0, none⟩))) 90 82 true).run Try.prog w = .ok (.tuple #[.pointer none, .bool false]) w := by kernel_rfl
theorem ta85 (b : Nat) (w : World) : (Instr.typeAssert (.iface 85 (.pointer (some ⟨b, 0, none⟩))) 90 85 true).run Try.prog w = .ok (.tuple #[.pointer (some ⟨b, 0, none⟩), .bool true]) w := by kernel_rfl
/-- A slice of so many elements has room for them. -/
def CapOk (v : Value) (n : Nat) : Prop := ∃ a c, v = .slice a n c ∧ n ≤ c
theorem three_allocs (w : World) (a b c : Obj) : (((w.alloc a).alloc b).alloc c).heap[w.heap.size]? = some a ∧ (((w.alloc a).alloc b).alloc c).heap[w.heap.size + 1]? = some b ∧ (((w.alloc a).alloc b).alloc c).heap[w.heap.size + 1 + 1]? = some c := by
  have h := four_allocs w a b c a
  have k : ∀ {x : World} {i : Nat} {o p : Obj}, i < x.heap.size → (x.alloc p).heap[i]? = some o → x.heap[i]? = some o := fun {x} {i} {o p} hi h => (Below.heap_alloc x p i hi).symm.trans h
  have hs : (((w.alloc a).alloc b).alloc c).heap.size = w.heap.size + 3 := by simp only [World.size_alloc]
  exact ⟨k (by omega) h.1, k (by omega) h.2.1, k (by omega) h.2.2.1⟩
/-- The worlds of the loops over the troubles. -/
structure FL (w : World) (b5 b6 b7 b8 bs bb D : Nat) (S : Array Value) (wv : Value) (f1 f2 h j : Int) (W : World) : Prop where
  fi : FI w b5 b6 b7 b8 bs S wv (f1, f2, 0) W
  rb : W.heap[bb]? = some (.cells #[.int .i64 h] 84)
  rc : W.heap[bb + 1]? = some (.cells #[.int .i64 j] 87)
  re : W.heap[bb + 1 + 1]? = some (.cells #[.iface 82 (.pointer (some ⟨bb, 0, none⟩)), .iface 85 (.pointer (some ⟨bb + 1, 0, none⟩))] 90)
  rd : W.heap[D]? = some (.deferred (some []))
  o5 : b5 < bb
  o6 : w.heap.size ≤ b6 ∧ b6 < bb ∧ b6 ≠ b5 ∧ b6 ≠ b7 ∧ b6 ≠ b8 ∧ b6 ≠ bs
  o7 : b7 < bb
  o8 : b8 < bb
  os : bs < bb
  oD : D ≠ bb ∧ D ≠ bb + 1 ∧ D ≠ b6
theorem FL.call {w : World} {b5 b6 b7 b8 bs bb D : Nat} {S : Array Value} {wv : Value} {f1 f2 h j : Int} {W W' : World} (H : FL w b5 b6 b7 b8 bs bb D S wv f1 f2 h j W) (hb : Below W.heap.size W W') : FL w b5 b6 b7 b8 bs bb D S wv f1 f2 h j W' :=
  { H with fi := H.fi.call hb, rb := block_keep H.rb hb, rc := block_keep H.rc hb, re := block_keep H.re hb, rd := block_keep H.rd hb }
theorem FL.bend {w : World} {b5 b6 b7 b8 bs bb D : Nat} {S : Array Value} {wv : Value} {f1 f2 h h' j : Int} {W W' : World} (H : FL w b5 b6 b7 b8 bs bb D S wv f1 f2 h j W) (hk : Keeps W W' bb) (hn : W'.heap[bb]? = some (.cells #[.int .i64 h'] 84)) : FL w b5 b6 b7 b8 bs bb D S wv f1 f2 h' j W' :=
  { H with
    fi := ⟨hk.row H.fi.r5 (by have := H.o5; omega), hk.row H.fi.r6 (by have := H.o6; omega), hk.row H.fi.r7 (by have := H.o7; omega), hk.row H.fi.r8 (by have := H.o8; omega), hk.row H.fi.rs (by have := H.os; omega), H.fi.bel.trans (hk.toBelow (by have := H.o6; omega) H.fi.bel.size)⟩
    rb := hn, rc := hk.row H.rc (by omega), re := hk.row H.re (by omega), rd := hk.row H.rd H.oD.1 }
theorem FL.bloom {w : World} {b5 b6 b7 b8 bs bb D : Nat} {S : Array Value} {wv : Value} {f1 f2 h j j' : Int} {W W' : World} (H : FL w b5 b6 b7 b8 bs bb D S wv f1 f2 h j W) (hk : Keeps W W' (bb + 1)) (hn : W'.heap[bb + 1]? = some (.cells #[.int .i64 j'] 87)) : FL w b5 b6 b7 b8 bs bb D S wv f1 f2 h j' W' :=
  { H with
    fi := ⟨hk.row H.fi.r5 (by have := H.o5; omega), hk.row H.fi.r6 (by have := H.o6; omega), hk.row H.fi.r7 (by have := H.o7; omega), hk.row H.fi.r8 (by have := H.o8; omega), hk.row H.fi.rs (by have := H.os; omega), H.fi.bel.trans (hk.toBelow (by have := H.o6; omega) H.fi.bel.size)⟩
    rb := hk.row H.rb (by omega), rc := hn, re := hk.row H.re (by omega), rd := hk.row H.rd H.oD.2.1 }
theorem FL.setf {w : World} {b5 b6 b7 b8 bs bb D : Nat} {S : Array Value} {wv : Value} {f1 f2 g1 g2 h j : Int} {W : World} (H : FL w b5 b6 b7 b8 bs bb D S wv f1 f2 h j W) (o : Nat) (v : Value) (hv : (#[Value.int .i64 f1, .int .i64 f2] : Array Value).setIfInBounds o v = #[.int .i64 g1, .int .i64 g2]) : FL w b5 b6 b7 b8 bs bb D S wv g1 g2 h j (W.setCell ⟨b6, o, none⟩ v) :=
  have k : ∀ {b : Nat} {x : Obj}, b ≠ b6 → W.heap[b]? = some x → (W.setCell ⟨b6, o, none⟩ v).heap[b]? = some x := fun hb hx => (heap_setCell_other _ _ _ _ hb).trans hx
  { H with
    fi := ⟨k (by have := H.o6; omega) H.fi.r5, by have := heap_setCell_same W b6 o _ 23 v H.fi.r6; rw [hv] at this; exact this, k (by have := H.o6; omega) H.fi.r7, k (by have := H.o6; omega) H.fi.r8, k (by have := H.o6; omega) H.fi.rs, H.fi.bel.setCell (p := ⟨b6, o, none⟩) H.o6.1 _⟩
    rb := k (by have := H.o6; omega) H.rb, rc := k (by have := H.o6; omega) H.rc, re := k (by have := H.o6; omega) H.re, rd := k H.oD.2.2 H.rd }
theorem intsIn_take {B : Nat} {w : World} {a : Option Addr} {n c : Nat} {l : List Int} (h : IntsIn .i64 B w (.slice a n c) l) (k : Nat) (hk : k ≤ l.length) : IntsIn .i64 B w (.slice a k c) (l.take k) := by
  obtain ⟨a', c', hv, hl, h⟩ := h
  simp only [Value.slice.injEq] at hv
  obtain ⟨rfl, -, rfl⟩ := hv
  have e : (l.take k).length = k := by simp; omega
  refine ⟨_, _, by rw [e], by rw [e]; omega, ?_⟩
  rcases h with h | ⟨b, o, h1, h2, h3⟩
  · exact .inl (by rw [h]; simp)
  · refine .inr ⟨b, o, h1, h2, fun i hi => ?_⟩
    rw [e] at hi
    rw [h3 i (by omega)]
    congr 2
    rw [List.getD_eq_getElem?_getD, List.getD_eq_getElem?_getD, List.getElem?_take, if_pos hi]

set_option maxRecDepth 100000 in
set_option maxHeartbeats 4000000 in
theorem fate_good (s : Sea) (vs wv uv : Value) (way warm : List Int) (w : World) (hv : StosIn w.heap.size w vs s.stores) (hw : IntsIn .i64 w.heap.size w wv way) (hu : IntsIn .i64 w.heap.size w uv warm) (hcap : CapOk uv warm.length) (he : openE s way = 0) (hz : warm.length = way.length) :
    Calls Try.prog 14 #[.agg #[.int .i64 s.bend, .int .i64 s.days, .int .i64 s.jump, .int .i64 s.times, .int .i64 s.move, vs], wv, uv] w
      fun e' w' => e' = .returned (.tuple #[.agg #[.int .i64 (fateV s way warm).1, .int .i64 (fateV s way warm).2.1], .int .i64 (fateV s way warm).2.2]) ∧ Below w.heap.size w w' := by
  have HV := Lib.hid hv
  have HWV := Lib.hid hw
  have HUV := Lib.hid hu
  obtain ⟨a, c, rfl, hll, hlc, hvv⟩ := hv
  obtain ⟨aw, cw, rfl, hwl, hwv⟩ := hw
  obtain ⟨au, cu, rfl, hul, huv⟩ := hu
  have hcu1 : warm.length ≤ cu := by obtain ⟨_, _, h, hc⟩ := hcap; simp only [Value.slice.injEq] at h; obtain ⟨-, -, rfl⟩ := h; exact hc
  clear hcap
  clear hwv hvv huv
  have HCU : Hid (way.length ≤ cu) := by rw [← hz]; exact hcu1
  clear hcu1
  rw [hz] at hul HUV ⊢
  have HE := Lib.hid he
  have HZ := Lib.hid hz
  have HG := Lib.hid (good_of_ok (openE_ok he).1)
  have HW := Lib.hid (way_ok (openE_ok he).2)
  clear he hz
  have R0 := Lib.hid (four_allocs w (.cells #[.int .i64 s.bend, .int .i64 s.days, .int .i64 s.jump, .int .i64 s.times, .int .i64 s.move, .slice a s.stores.length c] 31) (.cells #[.slice au way.length cu] 33) (.cells #[.int .i64 0, .int .i64 0] 23) (.cells #[.int .i64 0] 24))
  have C0 := Lib.hid (((((Below.refl w.heap.size w).alloc (Nat.le_refl _) (.cells #[.int .i64 s.bend, .int .i64 s.days, .int .i64 s.jump, .int .i64 s.times, .int .i64 s.move, .slice a s.stores.length c] 31)).alloc (by simp) (.cells #[.slice au way.length cu] 33)).alloc (by simp; omega) (.cells #[.int .i64 0, .int .i64 0] 23)).alloc (by simp; omega) (.cells #[.int .i64 0] 24))
  refine (callsIn_wide (n := 3)).1 ?_
  refine callsIn_of_wp_marks Try.func14 rfl trivial ?_ rfl
  simp only [Try.ntmps14, List.size_toArray, List.length_cons, List.length_nil, Nat.reduceAdd, Nat.reduceSub, Array.replicate_succ, Array.replicate_zero, List.push_toArray, List.append_toArray, List.nil_append, List.cons_append]
  gi_wp2_with fail
  refine ⟨trivial, (callsIn_wide.2 (open_any s _ _ way _ ((HV.out.below C0.out).mono C0.out.size) ((HWV.out.below C0.out).mono C0.out.size))).mono ?_⟩
  rintro e' w1 ⟨rfl, hbw⟩
  have C1 := Lib.hid (C0.out.trans (hbw.mono C0.out.size))
  have R5 := Lib.hid (block_keep R0.out.2.1 hbw)
  have R6 := Lib.hid (block_keep R0.out.2.2.1 hbw)
  have R7 := Lib.hid (block_keep R0.out.2.2.2 hbw)
  clear hbw R0 C0
  rw [HE.out]
  have c7 := cell_of_row w1 _ 0 _ _ _ R7.out
  have f7 := frozen_of_row w1 _ 0 _ _ R7.out
  have hsz1 : w.heap.size + 1 + 1 + 1 < w1.heap.size := block_lt R7.out
  gi_upto_region 2 with fail
  refine wpIn_world (fun W => FI w (w.heap.size + 1) (w.heap.size + 1 + 1) (w.heap.size + 1 + 1 + 1) w1.heap.size w1.heap.size #[.int .i64 s.bend, .int .i64 s.days, .int .i64 s.jump, .int .i64 s.times, .int .i64 s.move, .slice a s.stores.length c] (.slice au way.length cu) (0, 0, 0) W ∧ W.heap.size = w1.heap.size + 1) ?_ ?_
  · refine ⟨⟨?_, ?_, ?_, ?_, ?_, (C1.out.setCell (p := ⟨w.heap.size + 1 + 1 + 1, 0, none⟩) (by simp; omega) _).alloc (by simp only [World.size_setCell]; omega) _⟩, by simp⟩
    · exact (Below.heap_alloc _ _ _ (by simp only [World.size_setCell]; omega)).trans ((heap_setCell_other _ _ _ _ (show w.heap.size + 1 ≠ w.heap.size + 1 + 1 + 1 by omega)).trans R5.out)
    · exact (Below.heap_alloc _ _ _ (by simp only [World.size_setCell]; omega)).trans ((heap_setCell_other _ _ _ _ (show w.heap.size + 1 + 1 ≠ w.heap.size + 1 + 1 + 1 by omega)).trans R6.out)
    · exact (Below.heap_alloc _ _ _ (by simp only [World.size_setCell]; omega)).trans (setCell_row R7.out)
    · simpa using heap_alloc_new (w1.setCell ⟨w.heap.size + 1 + 1 + 1, 0, none⟩ (.int .i64 0)) (.cells #[.int .i64 s.bend, .int .i64 s.days, .int .i64 s.jump, .int .i64 s.times, .int .i64 s.move, .slice a s.stores.length c] 75)
    · simpa using heap_alloc_new (w1.setCell ⟨w.heap.size + 1 + 1 + 1, 0, none⟩ (.int .i64 0)) (.cells #[.int .i64 s.bend, .int .i64 s.days, .int .i64 s.jump, .int .i64 s.times, .int .i64 s.move, .slice a s.stores.length c] 75)
  rintro w2 ⟨hF, hsz2⟩
  have HF := Lib.hid hF
  clear c7 f7 hF
  have c7 := cell_of_row w2 _ 0 _ _ _ HF.out.r7
  have c5 := cell_of_row w2 _ 0 _ _ _ HF.out.r5
  have HR8 := Lib.hid HF.out.r8
  gi_wp2_with (refine wpListIn_load_row rfl 75 _ rfl _ rfl _ _ _ _ HR8.out Try.underlying75 rfl info75 ?_)
  refine ⟨trivial, (callsIn_wide.2 (along_any s _ _ _ _ _)).mono ?_⟩
  rintro e' w3 ⟨rfl, rfl⟩
  clear c7 c5
  gi_wp2_with fail
  refine wpIn_world (fun W0 => FI w (w.heap.size + 1) (w.heap.size + 1 + 1) (w.heap.size + 1 + 1 + 1) w1.heap.size (w1.heap.size + 1) #[.int .i64 s.bend, .int .i64 s.days, .int .i64 s.jump, .int .i64 s.times, .int .i64 s.move, .slice a s.stores.length c] (.slice au way.length cu) (0, 0, 0) W0 ∧ W0.heap[w1.heap.size + 1 + 1]? = some (.cells #[.slice aw way.length cw] 33) ∧ W0.heap.size = w1.heap.size + 3) ?_ ?_
  · have hb2 := ((Below.refl w2.heap.size w2).alloc (Nat.le_refl _) (.cells #[.int .i64 s.bend, .int .i64 s.days, .int .i64 s.jump, .int .i64 s.times, .int .i64 s.move, .slice a s.stores.length c] 75)).alloc (by simp) (.cells #[.slice aw way.length cw] 33)
    have h1 := heap_alloc_new w2 (.cells #[.int .i64 s.bend, .int .i64 s.days, .int .i64 s.jump, .int .i64 s.times, .int .i64 s.move, .slice a s.stores.length c] 75)
    rw [hsz2] at h1
    have h2 := heap_alloc_new (w2.alloc (.cells #[.int .i64 s.bend, .int .i64 s.days, .int .i64 s.jump, .int .i64 s.times, .int .i64 s.move, .slice a s.stores.length c] 75)) (.cells #[.slice aw way.length cw] 33)
    simp only [World.size_alloc, hsz2] at h2
    exact ⟨⟨block_keep HF.out.r5 hb2, block_keep HF.out.r6 hb2, block_keep HF.out.r7 hb2, block_keep HF.out.r8 hb2, (Below.heap_alloc _ _ _ (by simp only [World.size_alloc]; omega)).trans h1, HF.out.bel.trans (hb2.mono HF.out.bel.size)⟩, h2, by simp only [World.size_alloc]; omega⟩
  rintro W0 ⟨hFI, hbw, hsz⟩
  have HFI := Lib.hid hFI
  have HBW := Lib.hid hbw
  have hM : w.heap.size + 1 + 1 + 1 < w1.heap.size := hsz1
  have hbel := hFI.bel
  have hpos : 0 < way.length := HW.out.1
  clear hFI hbw
  refine wpIn_rangeFunc_ownH rfl (by omega) (gf := 48) (lb := #[.pointer (some ⟨w1.heap.size + 1 + 1, 0, none⟩), .pointer (some ⟨w1.heap.size + 1, 0, none⟩)]) rfl trivial (enters_of Try.func48 (by kernel_rfl) rfl)
    (alongA_stops (encF s way) (dayF way hpos) Fence.wide 2 trivial rfl (by omega) (w1.heap.size + 1 + 1) (w1.heap.size + 1) w.heap.size s way _ _ HG.out HW.out.2.1 HW.out.2.2 (fun k hk => by unfold encF dayF; rw [dif_pos hk]) W0 (by omega) (by omega) (cell_of_row W0 _ 0 _ _ _ HBW.out) HFI.out.rs (HV.out.below hbel) (HWV.out.below hbel))
    (fun h k => AlK.t h k) (AlK.b (by omega) (by omega)) (Below.refl _ _) (fun _ => rfl)
    (fun pre W => FI w (w.heap.size + 1) (w.heap.size + 1 + 1) (w.heap.size + 1 + 1 + 1) w1.heap.size (w1.heap.size + 1) #[.int .i64 s.bend, .int .i64 s.days, .int .i64 s.jump, .int .i64 s.times, .int .i64 s.move, .slice a s.stores.length c] (.slice au way.length cu) (0, 0, 0) W ∧ okF s way warm pre) (fun cc pre W => FI w (w.heap.size + 1) (w.heap.size + 1 + 1) (w.heap.size + 1 + 1 + 1) w1.heap.size (w1.heap.size + 1) #[.int .i64 s.bend, .int .i64 s.days, .int .i64 s.jump, .int .i64 s.times, .int .i64 s.move, .slice a s.stores.length c] (.slice au way.length cu) (0, 0, 7) W ∧ (cc = .ret ∧ ¬ okF s way warm pre))
    (FI.own (by omega) _) (fun cc => FI.own (by omega) (fun pre => cc = .ret ∧ ¬ okF s way warm pre)) ⟨HFI.out, fun x hx => by cases hx⟩
    (fun x a' W => ∃ Bx, w1.heap.size + 1 < Bx ∧ W.heap[Bx]? = some (.cells #[.int .i64 (sp s way x.1).1, .int .i64 (sp s way x.1).2] 53) ∧ a' = { tmps := #[.agg #[.int .i64 s.bend, .int .i64 s.days, .int .i64 s.jump, .int .i64 s.times, .int .i64 s.move, .slice a s.stores.length c], .slice aw way.length cw, .slice au way.length cu, .pointer (some ⟨w.heap.size, 0, none⟩), undef, .pointer (some ⟨w.heap.size + 1, 0, none⟩), .pointer (some ⟨w.heap.size + 1 + 1, 0, none⟩), .pointer (some ⟨w.heap.size + 1 + 1 + 1, 0, none⟩), .pointer (some ⟨w1.heap.size, 0, none⟩), .int .i64 (x.1 : Int), .pointer (some ⟨Bx, 0, none⟩), undef, undef, undef, .tuple #[.agg #[.int .i64 s.bend, .int .i64 s.days, .int .i64 s.jump, .int .i64 s.times, .int .i64 s.move, .slice a s.stores.length c], .int .i64 0], .agg #[.int .i64 s.bend, .int .i64 s.days, .int .i64 s.jump, .int .i64 s.times, .int .i64 s.move, .slice a s.stores.length c], .slice aw way.length cw, .tuple #[.agg #[.int .i64 s.bend, .int .i64 s.days, .int .i64 s.jump, .int .i64 s.times, .int .i64 s.move, .slice a s.stores.length c], .int .i64 0], .agg #[.int .i64 s.bend, .int .i64 s.days, .int .i64 s.jump, .int .i64 s.times, .int .i64 s.move, .slice a s.stores.length c], .int .i64 0, .bool false, .int .i64 0, .bool false, undef, undef, .bool false, .slice au way.length cu, .int .i64 (way.length : Int), .slice aw way.length cw, .int .i64 (way.length : Int), .bool false, undef, .agg #[.int .i64 s.bend, .int .i64 s.days, .int .i64 s.jump, .int .i64 s.times, .int .i64 s.move, .slice a s.stores.length c], .slice aw way.length cw, .func (.func 48) #[] #[.pointer (some ⟨w1.heap.size + 1 + 1, 0, none⟩), .pointer (some ⟨w1.heap.size + 1, 0, none⟩)], .int .i64 (x.1 : Int), .agg #[.int .i64 (sp s way x.1).1, .int .i64 (sp s way x.1).2], undef, undef, undef, undef, undef, undef, undef, undef, undef, undef, undef, undef, undef, undef, undef, undef, undef, undef, undef, undef, undef, undef, undef, undef, undef, undef, undef, undef, undef, undef, undef, undef, undef, undef, undef, undef, undef, undef, undef, undef, undef, undef, undef, undef, undef, undef, undef, undef, undef, undef, undef, undef, undef, undef, undef, undef], defers := [] })
    (fun x a' _ X Y row hs hg hr => by
      obtain ⟨Bx, h1, h2, h3⟩ := hs
      refine ⟨Bx, h1, (hg.block Bx (block_lt h2) ?_).trans h2, h3⟩
      intro e
      obtain ⟨_, o, ho, hc⟩ := hr Bx e.symm
      rw [h2] at ho; cases ho; simp [Obj.isCells] at hc)
    ?assign ?body ?done ?stop
  case assign =>
    rintro l pre x W K hI hK
    simp only [encF]
    gi_wp2
    exact hK _ _ ((KeepsOthers.alloc _ _).from _) ⟨(Below.refl _ W).alloc hI.1.bel.size _, (Below.heap_alloc W _ _ (block_lt hI.1.rs))⟩ ⟨hI.1.call ((Below.refl _ W).alloc (Nat.le_refl _) _), hI.2⟩ ⟨W.heap.size, block_lt hI.1.rs, World.alloc_heap_new W _, rfl⟩
  case body =>
    rintro l pre x a' W hl ⟨r, hr⟩ ⟨hI, hok⟩ ⟨Bx, hBx, hbx, rfl⟩ hlt
    have hxl := x.2
    have hn1 : 1 ≤ 3 - 1 - 1 := by omega
    obtain ⟨au', cu', hvv, _, hcc⟩ := HUV.out.below hI.bel
    simp only [Value.slice.injEq] at hvv
    obtain ⟨rfl, -, rfl⟩ := hvv
    have HZ2 := HZ.out
    obtain ⟨bu, ou, rfl, hbu, hcu⟩ := hcc.resolve_left (by intro h; rw [h] at HZ2; simp at HZ2; omega)
    have hcu := hcu x.1 (by omega)
    obtain ⟨y, hy⟩ : ∃ y, warm.getD x.1 0 = y := ⟨_, rfl⟩
    rw [hy] at hcu
    obtain ⟨r1, hr1⟩ : ∃ r1, outB (sp s way x.1).1 (sp s way x.1).2 [y] = r1 := ⟨_, rfl⟩
    have HR := Lib.hid hr1
    clear hr1 hcc HZ2
    cases r1
    · skip
      gi_wp2_with fail
      refine wpIn_region_inv0 (by kernel_rfl) (by kernel_rfl) (fun D W' => FB w W (w.heap.size + 1) (w.heap.size + 1 + 1) (w.heap.size + 1 + 1 + 1) w1.heap.size (w1.heap.size + 1) Bx bu (ou + x.1) #[.int .i64 s.bend, .int .i64 s.days, .int .i64 s.jump, .int .i64 s.times, .int .i64 s.move, .slice a s.stores.length c] (.slice (some ⟨bu, ou, none⟩) way.length cu) (sp s way x.1).1 (sp s way x.1).2 y D W') ⟨hI.call (Below.refl _ W).drew, Below.others (Below.refl _ W).drew, (Below.refl _ W).drew, hbx, hcu, fun _ => rfl, fun h => by cases h⟩ ?_
      apply obl_detIn
      case hrun =>
        intro D' y' wz hW hD R hR
        have HRR := Lib.hid hR
        clear hR hD
        have HW := Lib.hid hW
        have cx := fun i => cell_of_row wz _ i _ _ _ hW.bx
        clear hW
        gi_wp2
        exact HRR.out _ (HW.out.same rfl)
      case hnp => rfl
      case hv => first | exact ⟨_, fun _ => rfl⟩ | exact ⟨undef, fun _ => rfl⟩
      apply obl_detIn
      case hrun =>
        intro D' y' wz hW hD R hR
        have HRR := Lib.hid hR
        clear hR hD
        have HW := Lib.hid hW
        have cx := fun i => cell_of_row wz _ i _ _ _ hW.bx
        clear hW
        gi_wp2
        exact HRR.out _ (HW.out.same rfl)
      case hnp => rfl
      case hv => first | exact ⟨_, fun _ => rfl⟩ | exact ⟨undef, fun _ => rfl⟩
      apply obl_detIn
      case hrun =>
        intro D' y' wz hW hD R hR
        have HRR := Lib.hid hR
        clear hR hD
        have HW := Lib.hid hW
        have cx := fun i => cell_of_row wz _ i _ _ _ hW.bx
        clear hW
        gi_wp2
        exact HRR.out _ (HW.out.same rfl)
      case hnp => rfl
      case hv => first | exact ⟨_, fun _ => rfl⟩ | exact ⟨undef, fun _ => rfl⟩
      apply obl_detIn
      case hrun =>
        intro D' y' wz hW hD R hR
        have HRR := Lib.hid hR
        clear hR hD
        have HW := Lib.hid hW
        have cx := fun i => cell_of_row wz _ i _ _ _ hW.bx
        clear hW
        gi_wp2
        exact HRR.out _ (HW.out.same rfl)
      case hnp => rfl
      case hv => first | exact ⟨_, fun _ => rfl⟩ | exact ⟨undef, fun _ => rfl⟩
      apply obl_detIn
      case hrun =>
        intro D' y' wz hW hD R hR
        have HRR := Lib.hid hR
        clear hR hD
        have HW := Lib.hid hW
        have c5 := cell_of_row wz _ 0 _ _ _ hW.fi.r5
        clear hW
        gi_wp2
        exact HRR.out _ (HW.out.same rfl)
      case hnp => rfl
      case hv => first | exact ⟨_, fun _ => rfl⟩ | exact ⟨undef, fun _ => rfl⟩
      apply obl_detIn
      case hrun =>
        intro D' y' wz hW hD R hR
        have HRR := Lib.hid hR
        clear hR hD
        have HW := Lib.hid hW
        clear hW
        gi_wp2
        exact HRR.out _ (HW.out.same rfl)
      case hnp => rfl
      case hv => first | exact ⟨_, fun _ => rfl⟩ | exact ⟨undef, fun _ => rfl⟩
      apply obl_detIn
      case hrun =>
        intro D' y' wz hW hD R hR
        have HRR := Lib.hid hR
        clear hR hD
        have HW := Lib.hid hW
        clear hW
        gi_wp2
        exact HRR.out _ (HW.out.same rfl)
      case hnp => rfl
      case hv => first | exact ⟨_, fun _ => rfl⟩ | exact ⟨undef, fun _ => rfl⟩
      apply obl_detIn
      case hrun =>
        intro D' y' wz hW hD R hR
        have HRR := Lib.hid hR
        clear hR hD
        have HW := Lib.hid hW
        have cu := hW.cu
        clear hW
        gi_wp2
        exact HRR.out _ (HW.out.same rfl)
      case hnp => rfl
      case hv => first | exact ⟨_, fun _ => rfl⟩ | exact ⟨undef, fun _ => rfl⟩
      apply obl_detIn
      case hrun =>
        intro D' y' wz hW hD R hR
        have hd := hD.not
        have hs := hW.s0 hd
        have HRR := Lib.hid hR
        clear hR hD
        have HW := Lib.hid hW
        clear hW
        gi_wp2

        exact HRR.out _ (HW.out.alloc hd rfl)
      case hnp => rfl
      case hv => first | exact ⟨_, fun _ => rfl⟩ | exact ⟨undef, fun _ => rfl⟩
      apply obl_detIn
      case hrun =>
        intro D' y' wz hW hD R hR
        have hd := hD.pre _ 8 rfl (by kernel_rfl)
        have HRR := Lib.hid hR
        clear hR hD
        have HW := Lib.hid hW
        clear hW
        gi_wp2_with (refine ⟨trivial, ?_⟩; gi_at_call 35; refine (CallsIn.inRound l (callsIn_wide.2 (out_r false _ _ [y] HR.out _ _ _ (intsIn_row (l := [y]) (n := 1) (HW.out.s1 hd) (by simp)) (Nat.le_refl _)))).mono ?_; rintro e w' ⟨rfl, hbw⟩)
        exact HRR.out _ (HW.out.call hd hd hbw)
      case hnp => rfl
      case hv => first | exact ⟨_, fun _ => rfl⟩ | exact ⟨undef, fun _ => rfl⟩
      apply obl_nilIn
      intro D' y' w8 hall hW8
      have HW8 := Lib.hid hW8
      clear hall
      simp only [Exit.then]
      gi_wp2
      exact ⟨hW8.ko.from _, ⟨hW8.bw, hW8.fi.rs.trans hI.rs.symm⟩, hW8.fi, fun z hz => by
        rcases List.mem_append.1 hz with hz | hz
        · exact hok z hz
        · rw [List.mem_singleton.1 hz, hy]; exact HR.out⟩

    · skip
      gi_wp2_with fail
      refine wpIn_region_inv0 (by kernel_rfl) (by kernel_rfl) (fun D W' => FB w W (w.heap.size + 1) (w.heap.size + 1 + 1) (w.heap.size + 1 + 1 + 1) w1.heap.size (w1.heap.size + 1) Bx bu (ou + x.1) #[.int .i64 s.bend, .int .i64 s.days, .int .i64 s.jump, .int .i64 s.times, .int .i64 s.move, .slice a s.stores.length c] (.slice (some ⟨bu, ou, none⟩) way.length cu) (sp s way x.1).1 (sp s way x.1).2 y D W') ⟨hI.call (Below.refl _ W).drew, Below.others (Below.refl _ W).drew, (Below.refl _ W).drew, hbx, hcu, fun _ => rfl, fun h => by cases h⟩ ?_
      apply obl_detIn
      case hrun =>
        intro D' y' wz hW hD R hR
        have HRR := Lib.hid hR
        clear hR hD
        have HW := Lib.hid hW
        have cx := fun i => cell_of_row wz _ i _ _ _ hW.bx
        clear hW
        gi_wp2
        exact HRR.out _ (HW.out.same rfl)
      case hnp => rfl
      case hv => first | exact ⟨_, fun _ => rfl⟩ | exact ⟨undef, fun _ => rfl⟩
      apply obl_detIn
      case hrun =>
        intro D' y' wz hW hD R hR
        have HRR := Lib.hid hR
        clear hR hD
        have HW := Lib.hid hW
        have cx := fun i => cell_of_row wz _ i _ _ _ hW.bx
        clear hW
        gi_wp2
        exact HRR.out _ (HW.out.same rfl)
      case hnp => rfl
      case hv => first | exact ⟨_, fun _ => rfl⟩ | exact ⟨undef, fun _ => rfl⟩
      apply obl_detIn
      case hrun =>
        intro D' y' wz hW hD R hR
        have HRR := Lib.hid hR
        clear hR hD
        have HW := Lib.hid hW
        have cx := fun i => cell_of_row wz _ i _ _ _ hW.bx
        clear hW
        gi_wp2
        exact HRR.out _ (HW.out.same rfl)
      case hnp => rfl
      case hv => first | exact ⟨_, fun _ => rfl⟩ | exact ⟨undef, fun _ => rfl⟩
      apply obl_detIn
      case hrun =>
        intro D' y' wz hW hD R hR
        have HRR := Lib.hid hR
        clear hR hD
        have HW := Lib.hid hW
        have cx := fun i => cell_of_row wz _ i _ _ _ hW.bx
        clear hW
        gi_wp2
        exact HRR.out _ (HW.out.same rfl)
      case hnp => rfl
      case hv => first | exact ⟨_, fun _ => rfl⟩ | exact ⟨undef, fun _ => rfl⟩
      apply obl_detIn
      case hrun =>
        intro D' y' wz hW hD R hR
        have HRR := Lib.hid hR
        clear hR hD
        have HW := Lib.hid hW
        have c5 := cell_of_row wz _ 0 _ _ _ hW.fi.r5
        clear hW
        gi_wp2
        exact HRR.out _ (HW.out.same rfl)
      case hnp => rfl
      case hv => first | exact ⟨_, fun _ => rfl⟩ | exact ⟨undef, fun _ => rfl⟩
      apply obl_detIn
      case hrun =>
        intro D' y' wz hW hD R hR
        have HRR := Lib.hid hR
        clear hR hD
        have HW := Lib.hid hW
        clear hW
        gi_wp2
        exact HRR.out _ (HW.out.same rfl)
      case hnp => rfl
      case hv => first | exact ⟨_, fun _ => rfl⟩ | exact ⟨undef, fun _ => rfl⟩
      apply obl_detIn
      case hrun =>
        intro D' y' wz hW hD R hR
        have HRR := Lib.hid hR
        clear hR hD
        have HW := Lib.hid hW
        clear hW
        gi_wp2
        exact HRR.out _ (HW.out.same rfl)
      case hnp => rfl
      case hv => first | exact ⟨_, fun _ => rfl⟩ | exact ⟨undef, fun _ => rfl⟩
      apply obl_detIn
      case hrun =>
        intro D' y' wz hW hD R hR
        have HRR := Lib.hid hR
        clear hR hD
        have HW := Lib.hid hW
        have cu := hW.cu
        clear hW
        gi_wp2
        exact HRR.out _ (HW.out.same rfl)
      case hnp => rfl
      case hv => first | exact ⟨_, fun _ => rfl⟩ | exact ⟨undef, fun _ => rfl⟩
      apply obl_detIn
      case hrun =>
        intro D' y' wz hW hD R hR
        have hd := hD.not
        have hs := hW.s0 hd
        have HRR := Lib.hid hR
        clear hR hD
        have HW := Lib.hid hW
        clear hW
        gi_wp2

        exact HRR.out _ (HW.out.alloc hd rfl)
      case hnp => rfl
      case hv => first | exact ⟨_, fun _ => rfl⟩ | exact ⟨undef, fun _ => rfl⟩
      apply obl_detIn
      case hrun =>
        intro D' y' wz hW hD R hR
        have hd := hD.pre _ 8 rfl (by kernel_rfl)
        have HRR := Lib.hid hR
        clear hR hD
        have HW := Lib.hid hW
        clear hW
        gi_wp2_with (refine ⟨trivial, ?_⟩; gi_at_call 35; refine (CallsIn.inRound l (callsIn_wide.2 (out_r true _ _ [y] HR.out _ _ _ (intsIn_row (l := [y]) (n := 1) (HW.out.s1 hd) (by simp)) (Nat.le_refl _)))).mono ?_; rintro e w' ⟨rfl, hbw⟩)
        exact HRR.out _ (HW.out.call hd hd hbw)
      case hnp => rfl
      case hv => first | exact ⟨_, fun _ => rfl⟩ | exact ⟨undef, fun _ => rfl⟩
      apply obl_nilIn
      intro D' y' w8 hall hW8
      have HW8 := Lib.hid hW8
      clear hall
      simp only [Exit.then]
      have c7 := cell_of_row w8 _ 0 _ _ _ hW8.fi.r7
      have f7 := frozen_of_row w8 _ 0 _ _ hW8.fi.r7
      clear hW8
      gi_wp2_with (first | (refine wpListIn_load_row rfl 23 _ rfl _ rfl _ _ _ _ HW8.out.fi.r6 Try.underlying23 rfl info23 ?_) | (refine wpListIn_store_row rfl 23 _ _ rfl _ #[.int .i64 0, .int .i64 0] rfl rfl _ _ HW8.out.fi.r6 info23 rfl (by simp [Value.oneCell']) ?_; rw [setRow_self HW8.out.fi.r6]))
      exact ⟨(HW8.out.ko.trans (KeepsOthers.setCell _ _ _)).from _, HW8.out.fi.set7 7 (by omega) (by omega) (by omega) (by omega) (by omega), rfl, fun hk => by
        have := hk x (List.mem_append_right _ (List.mem_singleton.2 rfl))
        rw [hy, HR.out] at this; cases this⟩

  case stop =>
    rintro D cc pre W hD ⟨k, hk, rfl⟩ ⟨hF, rfl, hno⟩ hK
    have HF8 := Lib.hid hF
    have HK := Lib.hid hK
    have HC : Hid (fateV s way warm = (0, 0, 7)) := by unfold Hid fateV; rw [if_pos HE.out, if_pos HZ.out, if_pos (okF_not s way warm hpos k hk hno)]
    clear hF hK hno
    gi_wp2
    have hb8 : Below w.heap.size W (W.putObj D (.deferred none)) := belowK_b (Nat.le_trans (by omega) hbel.size) W D _ _ (by omega) HK.out rfl rfl
    have r6 : (W.putObj D (.deferred none)).heap[w.heap.size + 1 + 1]? = some (.cells #[.int .i64 0, .int .i64 0] 23) := (Array.getElem?_setIfInBounds_ne (show D ≠ w.heap.size + 1 + 1 by omega)).trans HF8.out.r6
    have r7 : (W.putObj D (.deferred none)).heap[w.heap.size + 1 + 1 + 1]? = some (.cells #[.int .i64 7] 24) := (Array.getElem?_setIfInBounds_ne (show D ≠ w.heap.size + 1 + 1 + 1 by omega)).trans HF8.out.r7
    refine ⟨by simp, .inl ⟨_, _, rfl, run_takeDeferred HK.out, ?_⟩⟩
    simp only [LeavesInM, LeavesIn]
    exact ⟨.tuple #[.agg #[.int .i64 0, .int .i64 0], .int .i64 7], fate_ret r6 r7 _ rfl rfl, by rw [HC.out], HF8.out.bel.trans hb8⟩
  case done =>
    rintro D ys W hD rfl ⟨hF, hok⟩ hK
    have HF8 := Lib.hid hF
    have HK := Lib.hid hK
    have HC : Hid (fateV s way warm = (bendAt s.bend s.days warm 0 0, bloomF s.jump s.times warm, 0)) := by unfold Hid fateV; rw [if_pos HE.out, if_pos HZ.out, okF_all s way warm hpos hok]; rfl
    have HOK : Hid (∀ d, d < way.length → 0 ≤ warm.getD d 0 ∧ warm.getD d 0 ≤ 60) := fun d hd => by
      have h1 := outB_false (hok (dayF way hpos d) (List.mem_map.2 ⟨d, List.mem_range.2 hd, rfl⟩)) (warm.getD d 0) (by unfold dayF; rw [dif_pos hd]; exact List.mem_singleton.2 rfl)
      have h2 := HW.out.2.2 d hd
      have h3 := HG.out.span (way.getD d 0).toNat (by omega) d (by have := HW.out.2.1; omega)
      unfold dayF at h1
      rw [dif_pos hd] at h1
      simp only [sp, Sea.at] at h1
      omega
    clear hF hK hok
    gi_wp2_with (refine wpListIn_store_row rfl 23 _ _ rfl _ #[.int .i64 (-1), .int .i64 (-1)] rfl rfl _ _ HF8.out.r6 info23 rfl (by simp [Value.oneCell']) ?_)
    have hMW : w1.heap.size + 1 < W.heap.size := block_lt HF8.out.rs
    refine wpIn_world (fun wr => FL w (w.heap.size + 1) (w.heap.size + 1 + 1) (w.heap.size + 1 + 1 + 1) w1.heap.size (w1.heap.size + 1) W.heap.size D #[.int .i64 s.bend, .int .i64 s.days, .int .i64 s.jump, .int .i64 s.times, .int .i64 s.move, .slice a s.stores.length c] (.slice au way.length cu) (-1) (-1) 0 0 wr) ?_ ?_
    · have hK9 := HK.out
      have hDlt := block_lt hK9
      have h3 := three_allocs (W.setRow (w.heap.size + 1 + 1) #[.int .i64 (-1), .int .i64 (-1)]) (.cells #[.int .i64 0] 84) (.cells #[.int .i64 0] 87) (.cells #[.iface 82 (.pointer (some ⟨W.heap.size, 0, none⟩)), .iface 85 (.pointer (some ⟨W.heap.size + 1, 0, none⟩))] 90)
      simp only [setRow_size] at h3
      have hb3 := (((Below.refl w.heap.size (W.setRow (w.heap.size + 1 + 1) #[.int .i64 (-1), .int .i64 (-1)])).alloc (by simp only [setRow_size]; omega) (.cells #[.int .i64 0] 84)).alloc (by simp only [World.size_alloc, setRow_size]; omega) (.cells #[.int .i64 0] 87)).alloc (by simp only [World.size_alloc, setRow_size]; omega) (.cells #[.iface 82 (.pointer (some ⟨W.heap.size, 0, none⟩)), .iface 85 (.pointer (some ⟨W.heap.size + 1, 0, none⟩))] 90)
      have q : ∀ {i : Nat} {o : Obj}, (W.setRow (w.heap.size + 1 + 1) #[.int .i64 (-1), .int .i64 (-1)]).heap[i]? = some o → ((((W.setRow (w.heap.size + 1 + 1) #[.int .i64 (-1), .int .i64 (-1)]).alloc (.cells #[.int .i64 0] 84)).alloc (.cells #[.int .i64 0] 87)).alloc (.cells #[.iface 82 (.pointer (some ⟨W.heap.size, 0, none⟩)), .iface 85 (.pointer (some ⟨W.heap.size + 1, 0, none⟩))] 90)).heap[i]? = some o := fun {i} {o} ho =>
        have hi := block_lt ho
        (Below.heap_alloc _ _ _ (by simp only [World.size_alloc]; omega)).trans ((Below.heap_alloc _ _ _ (by simp only [World.size_alloc]; omega)).trans ((Below.heap_alloc _ _ _ hi).trans ho))
      have k : ∀ {i : Nat} {o : Obj}, W.heap[i]? = some o → i ≠ w.heap.size + 1 + 1 → ((((W.setRow (w.heap.size + 1 + 1) #[.int .i64 (-1), .int .i64 (-1)]).alloc (.cells #[.int .i64 0] 84)).alloc (.cells #[.int .i64 0] 87)).alloc (.cells #[.iface 82 (.pointer (some ⟨W.heap.size, 0, none⟩)), .iface 85 (.pointer (some ⟨W.heap.size + 1, 0, none⟩))] 90)).heap[i]? = some o := fun {i} {o} ho hne =>
        q ((setRow_other _ _ _ _ hne).trans ho)
      exact ⟨⟨k HF8.out.r5 (by omega), q (setRow_heap _ _ _ _ _ _ HF8.out.r6), k HF8.out.r7 (by omega), k HF8.out.r8 (by omega), k HF8.out.rs (by omega), (below_setRow HF8.out.bel (by omega) _).trans hb3⟩, h3.1, h3.2.1, h3.2.2, k hK9 (by omega), by omega, by omega, by omega, by omega, by omega, by omega⟩
    intro W5 hF5
    have HF5 := Lib.hid hF5
    clear hF5 HK HF8
    gi_loopw [57] (fun k wr => ∃ (m : Nat) (h j : Int), k = .int .i64 m ∧ m ≤ 2 ∧ FL w (w.heap.size + 1) (w.heap.size + 1 + 1) (w.heap.size + 1 + 1 + 1) w1.heap.size (w1.heap.size + 1) W.heap.size D #[.int .i64 s.bend, .int .i64 s.days, .int .i64 s.jump, .int .i64 s.times, .int .i64 s.move, .slice a s.stores.length c] (.slice au way.length cu) (if m = 0 then -1 else bendAt s.bend s.days warm 0 0) (if m ≤ 1 then -1 else bloomF s.jump s.times warm) h j wr ∧ (m = 0 → h = 0) ∧ (m ≤ 1 → j = 0)) (fun k _ => 2 - (intOf k).toNat)
    case atStart => exact ⟨0, 0, 0, rfl, by omega, HF5.out, fun _ => rfl, fun _ => rfl⟩
    case round =>
      obtain ⟨m, h, j, rfl, hm, hF, hh, hj⟩ := hrel
      rcases Nat.lt_or_ge m 1 with hm0 | hm1
      · obtain rfl : m = 0 := by omega
        obtain rfl := hh rfl
        obtain rfl := hj (by omega)
        have HF : Hid (FL w (w.heap.size + 1) (w.heap.size + 1 + 1) (w.heap.size + 1 + 1 + 1) w1.heap.size (w1.heap.size + 1) W.heap.size D #[.int .i64 s.bend, .int .i64 s.days, .int .i64 s.jump, .int .i64 s.times, .int .i64 s.move, .slice a s.stores.length c] (.slice au way.length cu) (-1) (-1) 0 0 wr) := hF
        clear hF hh hj hm hm0
        have c5 := cell_of_row wr _ 0 _ _ _ HF.out.fi.r5
        have ce := fun i => cell_of_row wr _ i _ _ _ HF.out.re
        gi_wp2_with fail
        clear c5 ce
        gi_loopw [63] (fun dd wr => ∃ (d : Nat) (h : Int), dd = .int .i64 d ∧ d ≤ way.length ∧ FL w (w.heap.size + 1) (w.heap.size + 1 + 1) (w.heap.size + 1 + 1 + 1) w1.heap.size (w1.heap.size + 1) W.heap.size D #[.int .i64 s.bend, .int .i64 s.days, .int .i64 s.jump, .int .i64 s.times, .int .i64 s.move, .slice a s.stores.length c] (.slice au way.length cu) (-1) (-1) h 0 wr ∧ 0 ≤ h ∧ h ≤ d ∧ bendAt s.bend s.days warm 0 0 = bendAt s.bend s.days (warm.drop d) h d) (fun dd _ => way.length - (intOf dd).toNat)
        case atStart => exact ⟨0, 0, rfl, by omega, HF.out, by omega, by omega, by simp⟩
        case round =>
          obtain ⟨d, h, rfl, hd, hF, hh0, hh1, hbe⟩ := hrel
          have HF := Lib.hid hF
          have HBE := Lib.hid hbe
          clear hF hbe
          by_cases hlt : d < way.length
          · skip
            obtain ⟨au', cu', hvv, _, hcc⟩ := HUV.out
            simp only [Value.slice.injEq] at hvv
            obtain ⟨rfl, -, rfl⟩ := hvv
            have HZ2 := HZ.out
            obtain ⟨bu, ou, rfl, hbu, -⟩ := hcc.resolve_left (by intro h; rw [h] at HZ2; simp at HZ2; omega)
            have hcu1 : d + 1 ≤ cu := by have := HCU.out; omega
            have hway8 : way.length ≤ 8 := by have h1 := HW.out.2.1; have h2 := HG.out.len.2; omega
            have hbu2 : bu < W.heap.size := by have := HF.out.fi.bel.size; omega
            obtain ⟨x, hx⟩ : ∃ x, warm.getD d 0 = x := ⟨_, rfl⟩
            have HX := Lib.hid hx
            have HTL : Hid ((warm.take (d + 1)).length = d + 1) := by unfold Hid; rw [List.length_take]; omega
            have HTX : Hid ((warm.take (d + 1)).getD d 0 = x) := by unfold Hid; rw [← hx, List.getD_eq_getElem?_getD, List.getD_eq_getElem?_getD, List.getElem?_take, if_pos (by omega)]
            clear hcc HZ2 hx
            have HDR : Hid (warm.drop d = x :: warm.drop (d + 1)) := by
              unfold Hid
              have hdl : d < warm.length := by rw [HZ.out]; exact hlt
              rw [List.drop_eq_getElem_cons hdl, ← HX.out, List.getD_eq_getElem?_getD, List.getElem?_eq_getElem hdl]; rfl
            obtain ⟨r1, hr1⟩ : ∃ r1, (bendN s.bend x h == s.days) = r1 := ⟨_, rfl⟩
            have HR := Lib.hid hr1
            clear hr1
            have hbn : 0 ≤ bendN s.bend x h ∧ bendN s.bend x h ≤ d + 1 := by unfold bendN; split <;> omega
            cases r1
            · gi_wp2_with fail
              refine wpIn_region_inv0 (by kernel_rfl) (by kernel_rfl) (fun D2 W' => FL w (w.heap.size + 1) (w.heap.size + 1 + 1) (w.heap.size + 1 + 1 + 1) w1.heap.size (w1.heap.size + 1) W.heap.size D #[.int .i64 s.bend, .int .i64 s.days, .int .i64 s.jump, .int .i64 s.times, .int .i64 s.move, .slice a s.stores.length c] (.slice (some ⟨bu, ou, none⟩) way.length cu) (-1) (-1) (if D2 11 then bendN s.bend x h else h) 0 W') (HF.out.call (Below.refl _ wr).drew) ?_
              apply obl_detIn
              case hrun =>
                intro D' y' wz hW hD R hR
                have HRR := Lib.hid hR
                clear hR hD
                have HW := Lib.hid hW
                clear hW
                gi_wp2
                exact HRR.out _ HW.out
              case hnp => rfl
              case hv => first | exact ⟨_, fun _ => rfl⟩ | exact ⟨undef, fun _ => rfl⟩
              apply obl_detIn
              case hrun =>
                intro D' y' wz hW hD R hR
                have HRR := Lib.hid hR
                clear hR hD
                have HW := Lib.hid hW
                have c8 := fun i => cell_of_row wz _ i _ _ _ hW.fi.r8
                clear hW
                gi_wp2
                exact HRR.out _ HW.out
              case hnp => rfl
              case hv => first | exact ⟨_, fun _ => rfl⟩ | exact ⟨undef, fun _ => rfl⟩
              apply obl_detIn
              case hrun =>
                intro D' y' wz hW hD R hR
                have HRR := Lib.hid hR
                clear hR hD
                have HW := Lib.hid hW
                have c8 := fun i => cell_of_row wz _ i _ _ _ hW.fi.r8
                clear hW
                gi_wp2
                exact HRR.out _ HW.out
              case hnp => rfl
              case hv => first | exact ⟨_, fun _ => rfl⟩ | exact ⟨undef, fun _ => rfl⟩
              apply obl_detIn
              case hrun =>
                intro D' y' wz hW hD R hR
                have HRR := Lib.hid hR
                clear hR hD
                have HW := Lib.hid hW
                have c8 := fun i => cell_of_row wz _ i _ _ _ hW.fi.r8
                clear hW
                gi_wp2
                exact HRR.out _ HW.out
              case hnp => rfl
              case hv => first | exact ⟨_, fun _ => rfl⟩ | exact ⟨undef, fun _ => rfl⟩
              apply obl_detIn
              case hrun =>
                intro D' y' wz hW hD R hR
                have HRR := Lib.hid hR
                clear hR hD
                have HW := Lib.hid hW
                have c5 := cell_of_row wz _ 0 _ _ _ hW.fi.r5
                clear hW
                gi_wp2
                exact HRR.out _ HW.out
              case hnp => rfl
              case hv => first | exact ⟨_, fun _ => rfl⟩ | exact ⟨undef, fun _ => rfl⟩
              apply obl_detIn
              case hrun =>
                intro D' y' wz hW hD R hR
                have HRR := Lib.hid hR
                clear hR hD
                have HW := Lib.hid hW
                clear hW
                gi_wp2
                exact HRR.out _ HW.out
              case hnp => rfl
              case hv => first | exact ⟨_, fun _ => rfl⟩ | exact ⟨undef, fun _ => rfl⟩
              apply obl_detIn
              case hrun =>
                intro D' y' wz hW hD R hR
                have HRR := Lib.hid hR
                clear hR hD
                have HW := Lib.hid hW
                clear hW
                gi_wp2
                exact HRR.out _ HW.out
              case hnp => rfl
              case hv => first | exact ⟨_, fun _ => rfl⟩ | exact ⟨undef, fun _ => rfl⟩
              apply obl_detIn
              case hrun =>
                intro D' y' wz hW hD R hR
                have HRR := Lib.hid hR
                clear hR hD
                have HW := Lib.hid hW
                clear hW
                gi_wp2
                exact HRR.out _ HW.out
              case hnp => rfl
              case hv => first | exact ⟨_, fun _ => rfl⟩ | exact ⟨undef, fun _ => rfl⟩
              apply obl_detIn
              case hrun =>
                intro D' y' wz hW hD R hR
                have HRR := Lib.hid hR
                clear hR hD
                have HW := Lib.hid hW
                clear hW
                gi_wp2
                exact HRR.out _ HW.out
              case hnp => rfl
              case hv => first | exact ⟨_, fun _ => rfl⟩ | exact ⟨undef, fun _ => rfl⟩
              apply obl_detIn
              case hrun =>
                intro D' y' wz hW hD R hR
                have HRR := Lib.hid hR
                clear hR hD
                have HW := Lib.hid hW
                have na := na82 W.heap.size wz
                conv at na in Option.getD _ _ => whnf
                clear hW
                gi_wp2
                exact HRR.out _ HW.out
              case hnp => rfl
              case hv => first | exact ⟨_, fun _ => rfl⟩ | exact ⟨undef, fun _ => rfl⟩
              apply obl_detIn
              case hrun =>
                intro D' y' wz hW hD R hR
                have HRR := Lib.hid hR
                clear hR hD
                have HW := Lib.hid hW
                clear hW
                gi_wp2
                exact HRR.out _ HW.out
              case hnp => rfl
              case hv => first | exact ⟨_, fun _ => rfl⟩ | exact ⟨undef, fun _ => rfl⟩
              apply obl_detIn
              case hrun =>
                intro D' y' wz hW hD R hR
                have hd := hD.not
                have Hfalse := Lib.hid hR
                clear hR hD
                rw [hd] at hW
                have HW := Lib.hid hW
                clear hW
                have me := me82 W.heap.size wz
                conv at me in Option.getD _ _ => whnf
                gi_wp2_with fail
                refine ⟨trivial, ?_⟩
                have hcon := bending_any s.bend s.days s.jump s.times h (warm.take (d + 1)) d HTL.out x HTX.out _ W.heap.size _ ((intsIn_take (HUV.out.below HW.out.fi.bel) (d + 1) (by rw [HZ.out]; omega)).mono (by omega)) HW.out.rb hh0 (by omega) false HR.out
                refine (callsIn_wide.2 hcon).mono ?_
                rintro e w' ⟨rfl, hbw, hkw⟩
                gi_wp2_with fail
                exact Hfalse.out _ (HW.out.bend hkw hbw)
              case hnp => rfl
              case hv => first | exact ⟨_, fun _ => rfl⟩ | exact ⟨undef, fun _ => rfl⟩
              apply obl_detIn
              case hrun =>
                intro D' y' wz hW hD R hR
                have HRR := Lib.hid hR
                clear hR hD
                have HW := Lib.hid hW
                clear hW
                gi_wp2
                exact HRR.out _ HW.out
              case hnp => rfl
              case hv => first | exact ⟨_, fun _ => rfl⟩ | exact ⟨undef, fun _ => rfl⟩
              apply obl_nilIn
              intro D' y' w8 hall hW8
              have hd11 := hall 11 (by decide)
              simp only [hd11, if_true] at hW8
              have HW8 := Lib.hid hW8
              clear hall hW8 hd11
              simp only [Exit.then]
              gi_wp2_with fail
              refine ⟨?_, ?measure⟩
              iterate 29 apply Exists.intro
              refine ⟨?rel, rfl⟩
              case rel => exact ⟨d + 1, bendN s.bend x h, by go_num, by omega, HW8.out, hbn.1, by have := hbn.2; omega, by rw [HBE.out, HDR.out, bendAt, if_neg (by have := HR.out; simpa using this)]⟩
              case measure => simp [intOf]; omega
            · gi_wp2_with fail
              refine wpIn_region_inv0 (by kernel_rfl) (by kernel_rfl) (fun D2 W' => FL w (w.heap.size + 1) (w.heap.size + 1 + 1) (w.heap.size + 1 + 1 + 1) w1.heap.size (w1.heap.size + 1) W.heap.size D #[.int .i64 s.bend, .int .i64 s.days, .int .i64 s.jump, .int .i64 s.times, .int .i64 s.move, .slice a s.stores.length c] (.slice (some ⟨bu, ou, none⟩) way.length cu) (-1) (-1) (if D2 11 then bendN s.bend x h else h) 0 W') (HF.out.call (Below.refl _ wr).drew) ?_
              apply obl_detIn
              case hrun =>
                intro D' y' wz hW hD R hR
                have HRR := Lib.hid hR
                clear hR hD
                have HW := Lib.hid hW
                clear hW
                gi_wp2
                exact HRR.out _ HW.out
              case hnp => rfl
              case hv => first | exact ⟨_, fun _ => rfl⟩ | exact ⟨undef, fun _ => rfl⟩
              apply obl_detIn
              case hrun =>
                intro D' y' wz hW hD R hR
                have HRR := Lib.hid hR
                clear hR hD
                have HW := Lib.hid hW
                have c8 := fun i => cell_of_row wz _ i _ _ _ hW.fi.r8
                clear hW
                gi_wp2
                exact HRR.out _ HW.out
              case hnp => rfl
              case hv => first | exact ⟨_, fun _ => rfl⟩ | exact ⟨undef, fun _ => rfl⟩
              apply obl_detIn
              case hrun =>
                intro D' y' wz hW hD R hR
                have HRR := Lib.hid hR
                clear hR hD
                have HW := Lib.hid hW
                have c8 := fun i => cell_of_row wz _ i _ _ _ hW.fi.r8
                clear hW
                gi_wp2
                exact HRR.out _ HW.out
              case hnp => rfl
              case hv => first | exact ⟨_, fun _ => rfl⟩ | exact ⟨undef, fun _ => rfl⟩
              apply obl_detIn
              case hrun =>
                intro D' y' wz hW hD R hR
                have HRR := Lib.hid hR
                clear hR hD
                have HW := Lib.hid hW
                have c8 := fun i => cell_of_row wz _ i _ _ _ hW.fi.r8
                clear hW
                gi_wp2
                exact HRR.out _ HW.out
              case hnp => rfl
              case hv => first | exact ⟨_, fun _ => rfl⟩ | exact ⟨undef, fun _ => rfl⟩
              apply obl_detIn
              case hrun =>
                intro D' y' wz hW hD R hR
                have HRR := Lib.hid hR
                clear hR hD
                have HW := Lib.hid hW
                have c5 := cell_of_row wz _ 0 _ _ _ hW.fi.r5
                clear hW
                gi_wp2
                exact HRR.out _ HW.out
              case hnp => rfl
              case hv => first | exact ⟨_, fun _ => rfl⟩ | exact ⟨undef, fun _ => rfl⟩
              apply obl_detIn
              case hrun =>
                intro D' y' wz hW hD R hR
                have HRR := Lib.hid hR
                clear hR hD
                have HW := Lib.hid hW
                clear hW
                gi_wp2
                exact HRR.out _ HW.out
              case hnp => rfl
              case hv => first | exact ⟨_, fun _ => rfl⟩ | exact ⟨undef, fun _ => rfl⟩
              apply obl_detIn
              case hrun =>
                intro D' y' wz hW hD R hR
                have HRR := Lib.hid hR
                clear hR hD
                have HW := Lib.hid hW
                clear hW
                gi_wp2
                exact HRR.out _ HW.out
              case hnp => rfl
              case hv => first | exact ⟨_, fun _ => rfl⟩ | exact ⟨undef, fun _ => rfl⟩
              apply obl_detIn
              case hrun =>
                intro D' y' wz hW hD R hR
                have HRR := Lib.hid hR
                clear hR hD
                have HW := Lib.hid hW
                clear hW
                gi_wp2
                exact HRR.out _ HW.out
              case hnp => rfl
              case hv => first | exact ⟨_, fun _ => rfl⟩ | exact ⟨undef, fun _ => rfl⟩
              apply obl_detIn
              case hrun =>
                intro D' y' wz hW hD R hR
                have HRR := Lib.hid hR
                clear hR hD
                have HW := Lib.hid hW
                clear hW
                gi_wp2
                exact HRR.out _ HW.out
              case hnp => rfl
              case hv => first | exact ⟨_, fun _ => rfl⟩ | exact ⟨undef, fun _ => rfl⟩
              apply obl_detIn
              case hrun =>
                intro D' y' wz hW hD R hR
                have HRR := Lib.hid hR
                clear hR hD
                have HW := Lib.hid hW
                have na := na82 W.heap.size wz
                conv at na in Option.getD _ _ => whnf
                clear hW
                gi_wp2
                exact HRR.out _ HW.out
              case hnp => rfl
              case hv => first | exact ⟨_, fun _ => rfl⟩ | exact ⟨undef, fun _ => rfl⟩
              apply obl_detIn
              case hrun =>
                intro D' y' wz hW hD R hR
                have HRR := Lib.hid hR
                clear hR hD
                have HW := Lib.hid hW
                clear hW
                gi_wp2
                exact HRR.out _ HW.out
              case hnp => rfl
              case hv => first | exact ⟨_, fun _ => rfl⟩ | exact ⟨undef, fun _ => rfl⟩
              apply obl_detIn
              case hrun =>
                intro D' y' wz hW hD R hR
                have hd := hD.not
                have Htrue := Lib.hid hR
                clear hR hD
                rw [hd] at hW
                have HW := Lib.hid hW
                clear hW
                have me := me82 W.heap.size wz
                conv at me in Option.getD _ _ => whnf
                gi_wp2_with fail
                refine ⟨trivial, ?_⟩
                have hcon := bending_any s.bend s.days s.jump s.times h (warm.take (d + 1)) d HTL.out x HTX.out _ W.heap.size _ ((intsIn_take (HUV.out.below HW.out.fi.bel) (d + 1) (by rw [HZ.out]; omega)).mono (by omega)) HW.out.rb hh0 (by omega) true HR.out
                refine (callsIn_wide.2 hcon).mono ?_
                rintro e w' ⟨rfl, hbw, hkw⟩
                gi_wp2_with fail
                exact Htrue.out _ (HW.out.bend hkw hbw)
              case hnp => rfl
              case hv => first | exact ⟨_, fun _ => rfl⟩ | exact ⟨undef, fun _ => rfl⟩
              apply obl_detIn
              case hrun =>
                intro D' y' wz hW hD R hR
                have HRR := Lib.hid hR
                clear hR hD
                have HW := Lib.hid hW
                clear hW
                gi_wp2
                exact HRR.out _ HW.out
              case hnp => rfl
              case hv => first | exact ⟨_, fun _ => rfl⟩ | exact ⟨undef, fun _ => rfl⟩
              apply obl_nilIn
              intro D' y' w8 hall hW8
              have hd11 := hall 11 (by decide)
              simp only [hd11, if_true] at hW8
              have HW8 := Lib.hid hW8
              clear hall hW8 hd11
              simp only [Exit.then]
              have c6 := fun i => cell_of_row w8 _ i _ _ _ HW8.out.fi.r6
              have f6 := fun i => frozen_of_row w8 _ i _ _ HW8.out.fi.r6
              have ta := ta82 W.heap.size w8
              gi_wp2_with fail
              refine ⟨⟨1, bendN s.bend x h, 0, rfl, by omega, ?_, fun h => by omega, fun _ => rfl⟩, ?measure⟩
              · have := HW8.out.setf (g1 := bendAt s.bend s.days warm 0 0) (g2 := -1) 0 (.int .i64 (d : Int)) (by rw [HBE.out, HDR.out, bendAt, if_pos (by have := HR.out; simpa using this)]; rfl)
                exact this
              case measure => simp [intOf]
          · gi_wp2_with fail
            refine ⟨⟨1, h, 0, rfl, by omega, ?_, fun h => by omega, fun _ => rfl⟩, ?measure⟩
            · have hb : bendAt s.bend s.days warm 0 0 = -1 := by
                have h1 := HZ.out
                rw [HBE.out, List.drop_eq_nil_of_le (by omega)]; rfl
              rw [if_neg (show ¬ (1 : Nat) = 0 by omega), if_pos (show (1 : Nat) ≤ 1 by omega), hb]
              exact HF.out
            case measure => simp [intOf]
      · rcases Nat.lt_or_ge m 2 with hm1' | hm2
        · obtain rfl : m = 1 := by omega
          obtain rfl := hj (by omega)
          have HF : Hid (FL w (w.heap.size + 1) (w.heap.size + 1 + 1) (w.heap.size + 1 + 1 + 1) w1.heap.size (w1.heap.size + 1) W.heap.size D #[.int .i64 s.bend, .int .i64 s.days, .int .i64 s.jump, .int .i64 s.times, .int .i64 s.move, .slice a s.stores.length c] (.slice au way.length cu) (bendAt s.bend s.days warm 0 0) (-1) h 0 wr) := hF
          clear hF hh hj hm hm1 hm1'
          have c5 := cell_of_row wr _ 0 _ _ _ HF.out.fi.r5
          have ce := fun i => cell_of_row wr _ i _ _ _ HF.out.re
          gi_wp2_with fail
          clear c5 ce
          gi_loopw [63] (fun dd wr => ∃ (d : Nat) (j : Int), dd = .int .i64 d ∧ d ≤ way.length ∧ FL w (w.heap.size + 1) (w.heap.size + 1 + 1) (w.heap.size + 1 + 1 + 1) w1.heap.size (w1.heap.size + 1) W.heap.size D #[.int .i64 s.bend, .int .i64 s.days, .int .i64 s.jump, .int .i64 s.times, .int .i64 s.move, .slice a s.stores.length c] (.slice au way.length cu) (bendAt s.bend s.days warm 0 0) (-1) h j wr ∧ 0 ≤ j ∧ j ≤ d ∧ (d = 0 → j = 0) ∧ (0 < d → bloomF s.jump s.times warm = bloomAt s.jump s.times (warm.drop d) (warm.getD (d - 1) 0) j d)) (fun dd _ => way.length - (intOf dd).toNat)
          case atStart => exact ⟨0, 0, rfl, by omega, HF.out, by omega, by omega, fun _ => rfl, fun h => by omega⟩
          case round =>
            obtain ⟨d, j, rfl, hd, hF, hj0, hj1, hjz, hbl⟩ := hrel
            have HF := Lib.hid hF
            have HBL := Lib.hid hbl
            clear hF hbl
            by_cases hlt : d < way.length
            · skip
              by_cases hd0 : d = 0
              · obtain rfl : d = 0 := hd0
                obtain rfl := hjz rfl
                obtain ⟨au', cu', hvv, -, hcc⟩ := HUV.out
                simp only [Value.slice.injEq] at hvv
                obtain ⟨rfl, -, rfl⟩ := hvv
                have HZ2 := HZ.out
                obtain ⟨bu, ou, rfl, hbu, -⟩ := hcc.resolve_left (by intro h; rw [h] at HZ2; simp at HZ2; omega)
                have hcu1 : 0 + 1 ≤ cu := by have := HCU.out; omega
                have hway8 : way.length ≤ 8 := by have h1 := HW.out.2.1; have h2 := HG.out.len.2; omega
                have hbu2 : bu < W.heap.size := by have := HF.out.fi.bel.size; omega
                obtain ⟨x, hx⟩ : ∃ x, warm.getD 0 0 = x := ⟨_, rfl⟩
                have HX := Lib.hid hx
                have HTL : Hid ((warm.take (0 + 1)).length = 0 + 1) := by unfold Hid; rw [List.length_take]; omega
                have HTX : Hid ((warm.take (0 + 1)).getD 0 0 = x) := by unfold Hid; rw [← hx, List.getD_eq_getElem?_getD, List.getD_eq_getElem?_getD, List.getElem?_take, if_pos (by omega)]
                clear hcc HZ2 hx
                have HDR : Hid (warm.drop 0 = x :: warm.drop (0 + 1)) := by
                  unfold Hid
                  have hdl : 0 < warm.length := by rw [HZ.out]; exact hlt
                  rw [List.drop_eq_getElem_cons hdl, ← HX.out, List.getD_eq_getElem?_getD, List.getElem?_eq_getElem hdl]; rfl
                gi_wp2_with fail
                refine wpIn_region_inv0 (by kernel_rfl) (by kernel_rfl) (fun D2 W' => FL w (w.heap.size + 1) (w.heap.size + 1 + 1) (w.heap.size + 1 + 1 + 1) w1.heap.size (w1.heap.size + 1) W.heap.size D #[.int .i64 s.bend, .int .i64 s.days, .int .i64 s.jump, .int .i64 s.times, .int .i64 s.move, .slice a s.stores.length c] (.slice (some ⟨bu, ou, none⟩) way.length cu) (bendAt s.bend s.days warm 0 0) (-1) h 0 W') (HF.out.call (Below.refl _ wr).drew) ?_
                apply obl_detIn
                case hrun =>
                  intro D' y' wz hW hD R hR
                  have HRR := Lib.hid hR
                  clear hR hD
                  have HW := Lib.hid hW
                  clear hW
                  gi_wp2
                  exact HRR.out _ HW.out
                case hnp => rfl
                case hv => first | exact ⟨_, fun _ => rfl⟩ | exact ⟨undef, fun _ => rfl⟩
                apply obl_detIn
                case hrun =>
                  intro D' y' wz hW hD R hR
                  have HRR := Lib.hid hR
                  clear hR hD
                  have HW := Lib.hid hW
                  have c8 := fun i => cell_of_row wz _ i _ _ _ hW.fi.r8
                  clear hW
                  gi_wp2
                  exact HRR.out _ HW.out
                case hnp => rfl
                case hv => first | exact ⟨_, fun _ => rfl⟩ | exact ⟨undef, fun _ => rfl⟩
                apply obl_detIn
                case hrun =>
                  intro D' y' wz hW hD R hR
                  have HRR := Lib.hid hR
                  clear hR hD
                  have HW := Lib.hid hW
                  have c8 := fun i => cell_of_row wz _ i _ _ _ hW.fi.r8
                  clear hW
                  gi_wp2
                  exact HRR.out _ HW.out
                case hnp => rfl
                case hv => first | exact ⟨_, fun _ => rfl⟩ | exact ⟨undef, fun _ => rfl⟩
                apply obl_detIn
                case hrun =>
                  intro D' y' wz hW hD R hR
                  have HRR := Lib.hid hR
                  clear hR hD
                  have HW := Lib.hid hW
                  have c8 := fun i => cell_of_row wz _ i _ _ _ hW.fi.r8
                  clear hW
                  gi_wp2
                  exact HRR.out _ HW.out
                case hnp => rfl
                case hv => first | exact ⟨_, fun _ => rfl⟩ | exact ⟨undef, fun _ => rfl⟩
                apply obl_detIn
                case hrun =>
                  intro D' y' wz hW hD R hR
                  have HRR := Lib.hid hR
                  clear hR hD
                  have HW := Lib.hid hW
                  have c5 := cell_of_row wz _ 0 _ _ _ hW.fi.r5
                  clear hW
                  gi_wp2
                  exact HRR.out _ HW.out
                case hnp => rfl
                case hv => first | exact ⟨_, fun _ => rfl⟩ | exact ⟨undef, fun _ => rfl⟩
                apply obl_detIn
                case hrun =>
                  intro D' y' wz hW hD R hR
                  have HRR := Lib.hid hR
                  clear hR hD
                  have HW := Lib.hid hW
                  clear hW
                  gi_wp2
                  exact HRR.out _ HW.out
                case hnp => rfl
                case hv => first | exact ⟨_, fun _ => rfl⟩ | exact ⟨undef, fun _ => rfl⟩
                apply obl_detIn
                case hrun =>
                  intro D' y' wz hW hD R hR
                  have HRR := Lib.hid hR
                  clear hR hD
                  have HW := Lib.hid hW
                  clear hW
                  gi_wp2
                  exact HRR.out _ HW.out
                case hnp => rfl
                case hv => first | exact ⟨_, fun _ => rfl⟩ | exact ⟨undef, fun _ => rfl⟩
                apply obl_detIn
                case hrun =>
                  intro D' y' wz hW hD R hR
                  have HRR := Lib.hid hR
                  clear hR hD
                  have HW := Lib.hid hW
                  clear hW
                  gi_wp2
                  exact HRR.out _ HW.out
                case hnp => rfl
                case hv => first | exact ⟨_, fun _ => rfl⟩ | exact ⟨undef, fun _ => rfl⟩
                apply obl_detIn
                case hrun =>
                  intro D' y' wz hW hD R hR
                  have HRR := Lib.hid hR
                  clear hR hD
                  have HW := Lib.hid hW
                  clear hW
                  gi_wp2
                  exact HRR.out _ HW.out
                case hnp => rfl
                case hv => first | exact ⟨_, fun _ => rfl⟩ | exact ⟨undef, fun _ => rfl⟩
                apply obl_detIn
                case hrun =>
                  intro D' y' wz hW hD R hR
                  have HRR := Lib.hid hR
                  clear hR hD
                  have HW := Lib.hid hW
                  have na := na85 (W.heap.size + 1) wz
                  conv at na in Option.getD _ _ => whnf
                  clear hW
                  gi_wp2
                  exact HRR.out _ HW.out
                case hnp => rfl
                case hv => first | exact ⟨_, fun _ => rfl⟩ | exact ⟨undef, fun _ => rfl⟩
                apply obl_detIn
                case hrun =>
                  intro D' y' wz hW hD R hR
                  have HRR := Lib.hid hR
                  clear hR hD
                  have HW := Lib.hid hW
                  clear hW
                  gi_wp2
                  exact HRR.out _ HW.out
                case hnp => rfl
                case hv => first | exact ⟨_, fun _ => rfl⟩ | exact ⟨undef, fun _ => rfl⟩
                apply obl_detIn
                case hrun =>
                  intro D' y' wz hW hD R hR
                  have hd := hD.not
                  have HRR := Lib.hid hR
                  clear hR hD
                  have HW := Lib.hid hW
                  clear hW
                  have me := me85 (W.heap.size + 1) wz
                  conv at me in Option.getD _ _ => whnf
                  gi_wp2_with fail
                  refine ⟨trivial, ?_⟩
                  have hcon := blooming_first s.bend s.days s.jump s.times 0 (warm.take (0 + 1)) HTL.out _ (W.heap.size + 1) _ ((intsIn_take (HUV.out.below HW.out.fi.bel) (0 + 1) (by rw [HZ.out]; omega)).mono (by omega)) HW.out.rc
                  refine (callsIn_wide.2 hcon).mono ?_
                  rintro e w' ⟨rfl, hbw, hkw⟩
                  gi_wp2_with fail
                  exact HRR.out _ (HW.out.bloom hkw hbw)
                case hnp => rfl
                case hv => first | exact ⟨_, fun _ => rfl⟩ | exact ⟨undef, fun _ => rfl⟩
                apply obl_detIn
                case hrun =>
                  intro D' y' wz hW hD R hR
                  have HRR := Lib.hid hR
                  clear hR hD
                  have HW := Lib.hid hW
                  clear hW
                  gi_wp2
                  exact HRR.out _ HW.out
                case hnp => rfl
                case hv => first | exact ⟨_, fun _ => rfl⟩ | exact ⟨undef, fun _ => rfl⟩
                apply obl_nilIn
                intro D' y' w8 hall hW8
                have HW8 := Lib.hid hW8
                clear hall hW8
                simp only [Exit.then]
                gi_wp2_with fail
                refine ⟨?_, ?measure⟩
                iterate 29 apply Exists.intro
                refine ⟨?rel, rfl⟩
                case rel => exact ⟨0 + 1, 0, by go_num, by omega, HW8.out, by omega, by omega, by omega, fun _ => by have h1 := HDR.out; rw [List.drop_zero] at h1; rw [Nat.add_sub_cancel, HX.out, h1]; rfl⟩
                case measure => simp [intOf]; omega
              · skip
                obtain ⟨au', cu', hvv, -, hcc⟩ := HUV.out
                simp only [Value.slice.injEq] at hvv
                obtain ⟨rfl, -, rfl⟩ := hvv
                have HZ2 := HZ.out
                obtain ⟨bu, ou, rfl, hbu, -⟩ := hcc.resolve_left (by intro h; rw [h] at HZ2; simp at HZ2; omega)
                have hcu1 : d + 1 ≤ cu := by have := HCU.out; omega
                have hway8 : way.length ≤ 8 := by have h1 := HW.out.2.1; have h2 := HG.out.len.2; omega
                have hbu2 : bu < W.heap.size := by have := HF.out.fi.bel.size; omega
                obtain ⟨x, hx⟩ : ∃ x, warm.getD d 0 = x := ⟨_, rfl⟩
                have HX := Lib.hid hx
                have HTL : Hid ((warm.take (d + 1)).length = d + 1) := by unfold Hid; rw [List.length_take]; omega
                have HTX : Hid ((warm.take (d + 1)).getD d 0 = x) := by unfold Hid; rw [← hx, List.getD_eq_getElem?_getD, List.getD_eq_getElem?_getD, List.getElem?_take, if_pos (by omega)]
                clear hcc HZ2 hx
                have HDR : Hid (warm.drop d = x :: warm.drop (d + 1)) := by
                  unfold Hid
                  have hdl : d < warm.length := by rw [HZ.out]; exact hlt
                  rw [List.drop_eq_getElem_cons hdl, ← HX.out, List.getD_eq_getElem?_getD, List.getElem?_eq_getElem hdl]; rfl
                obtain ⟨y, hy⟩ : ∃ y, warm.getD (d - 1) 0 = y := ⟨_, rfl⟩
                have HY := Lib.hid hy
                have HTY : Hid ((warm.take (d + 1)).getD (d - 1) 0 = y) := by unfold Hid; rw [← hy, List.getD_eq_getElem?_getD, List.getD_eq_getElem?_getD, List.getElem?_take, if_pos (by omega)]
                have hyb := HOK.out (d - 1) (by omega)
                have hxb := HOK.out d hlt
                rw [hy] at hyb
                rw [HX.out] at hxb
                clear hy
                have HBD : Hid (bloomF s.jump s.times warm = bloomAt s.jump s.times (x :: warm.drop (d + 1)) y j d) := by unfold Hid; rw [← HDR.out, HBL.out (by omega), HY.out]
                obtain ⟨q, hq⟩ : ∃ q, jumpB s.jump y x = q := ⟨_, rfl⟩
                have HQ := Lib.hid hq
                clear hq
                obtain ⟨r1, hr1⟩ : ∃ r1, (j + 1 == s.times) = r1 := ⟨_, rfl⟩
                have HR := Lib.hid hr1
                clear hr1
                cases q
                · have HBN : Hid (bloomF s.jump s.times warm = bloomAt s.jump s.times (warm.drop (d + 1)) x j (d + 1)) := by unfold Hid; rw [HBD.out, bloomAt, HQ.out]; rfl
                  gi_wp2_with fail
                  refine wpIn_region_inv0 (by kernel_rfl) (by kernel_rfl) (fun D2 W' => FL w (w.heap.size + 1) (w.heap.size + 1 + 1) (w.heap.size + 1 + 1 + 1) w1.heap.size (w1.heap.size + 1) W.heap.size D #[.int .i64 s.bend, .int .i64 s.days, .int .i64 s.jump, .int .i64 s.times, .int .i64 s.move, .slice a s.stores.length c] (.slice (some ⟨bu, ou, none⟩) way.length cu) (bendAt s.bend s.days warm 0 0) (-1) h j W') (HF.out.call (Below.refl _ wr).drew) ?_
                  apply obl_detIn
                  case hrun =>
                    intro D' y' wz hW hD R hR
                    have HRR := Lib.hid hR
                    clear hR hD
                    have HW := Lib.hid hW
                    clear hW
                    gi_wp2
                    exact HRR.out _ HW.out
                  case hnp => rfl
                  case hv => first | exact ⟨_, fun _ => rfl⟩ | exact ⟨undef, fun _ => rfl⟩
                  apply obl_detIn
                  case hrun =>
                    intro D' y' wz hW hD R hR
                    have HRR := Lib.hid hR
                    clear hR hD
                    have HW := Lib.hid hW
                    have c8 := fun i => cell_of_row wz _ i _ _ _ hW.fi.r8
                    clear hW
                    gi_wp2
                    exact HRR.out _ HW.out
                  case hnp => rfl
                  case hv => first | exact ⟨_, fun _ => rfl⟩ | exact ⟨undef, fun _ => rfl⟩
                  apply obl_detIn
                  case hrun =>
                    intro D' y' wz hW hD R hR
                    have HRR := Lib.hid hR
                    clear hR hD
                    have HW := Lib.hid hW
                    have c8 := fun i => cell_of_row wz _ i _ _ _ hW.fi.r8
                    clear hW
                    gi_wp2
                    exact HRR.out _ HW.out
                  case hnp => rfl
                  case hv => first | exact ⟨_, fun _ => rfl⟩ | exact ⟨undef, fun _ => rfl⟩
                  apply obl_detIn
                  case hrun =>
                    intro D' y' wz hW hD R hR
                    have HRR := Lib.hid hR
                    clear hR hD
                    have HW := Lib.hid hW
                    have c8 := fun i => cell_of_row wz _ i _ _ _ hW.fi.r8
                    clear hW
                    gi_wp2
                    exact HRR.out _ HW.out
                  case hnp => rfl
                  case hv => first | exact ⟨_, fun _ => rfl⟩ | exact ⟨undef, fun _ => rfl⟩
                  apply obl_detIn
                  case hrun =>
                    intro D' y' wz hW hD R hR
                    have HRR := Lib.hid hR
                    clear hR hD
                    have HW := Lib.hid hW
                    have c5 := cell_of_row wz _ 0 _ _ _ hW.fi.r5
                    clear hW
                    gi_wp2
                    exact HRR.out _ HW.out
                  case hnp => rfl
                  case hv => first | exact ⟨_, fun _ => rfl⟩ | exact ⟨undef, fun _ => rfl⟩
                  apply obl_detIn
                  case hrun =>
                    intro D' y' wz hW hD R hR
                    have HRR := Lib.hid hR
                    clear hR hD
                    have HW := Lib.hid hW
                    clear hW
                    gi_wp2
                    exact HRR.out _ HW.out
                  case hnp => rfl
                  case hv => first | exact ⟨_, fun _ => rfl⟩ | exact ⟨undef, fun _ => rfl⟩
                  apply obl_detIn
                  case hrun =>
                    intro D' y' wz hW hD R hR
                    have HRR := Lib.hid hR
                    clear hR hD
                    have HW := Lib.hid hW
                    clear hW
                    gi_wp2
                    exact HRR.out _ HW.out
                  case hnp => rfl
                  case hv => first | exact ⟨_, fun _ => rfl⟩ | exact ⟨undef, fun _ => rfl⟩
                  apply obl_detIn
                  case hrun =>
                    intro D' y' wz hW hD R hR
                    have HRR := Lib.hid hR
                    clear hR hD
                    have HW := Lib.hid hW
                    clear hW
                    gi_wp2
                    exact HRR.out _ HW.out
                  case hnp => rfl
                  case hv => first | exact ⟨_, fun _ => rfl⟩ | exact ⟨undef, fun _ => rfl⟩
                  apply obl_detIn
                  case hrun =>
                    intro D' y' wz hW hD R hR
                    have HRR := Lib.hid hR
                    clear hR hD
                    have HW := Lib.hid hW
                    clear hW
                    gi_wp2
                    exact HRR.out _ HW.out
                  case hnp => rfl
                  case hv => first | exact ⟨_, fun _ => rfl⟩ | exact ⟨undef, fun _ => rfl⟩
                  apply obl_detIn
                  case hrun =>
                    intro D' y' wz hW hD R hR
                    have HRR := Lib.hid hR
                    clear hR hD
                    have HW := Lib.hid hW
                    have na := na85 (W.heap.size + 1) wz
                    conv at na in Option.getD _ _ => whnf
                    clear hW
                    gi_wp2
                    exact HRR.out _ HW.out
                  case hnp => rfl
                  case hv => first | exact ⟨_, fun _ => rfl⟩ | exact ⟨undef, fun _ => rfl⟩
                  apply obl_detIn
                  case hrun =>
                    intro D' y' wz hW hD R hR
                    have HRR := Lib.hid hR
                    clear hR hD
                    have HW := Lib.hid hW
                    clear hW
                    gi_wp2
                    exact HRR.out _ HW.out
                  case hnp => rfl
                  case hv => first | exact ⟨_, fun _ => rfl⟩ | exact ⟨undef, fun _ => rfl⟩
                  apply obl_detIn
                  case hrun =>
                    intro D' y' wz hW hD R hR
                    have hd := hD.not
                    have HRR := Lib.hid hR
                    clear hR hD
                    have HW := Lib.hid hW
                    clear hW
                    have me := me85 (W.heap.size + 1) wz
                    conv at me in Option.getD _ _ => whnf
                    gi_wp2_with fail
                    refine ⟨trivial, ?_⟩
                    have hcon := blooming_later s.bend s.days s.jump s.times j (warm.take (d + 1)) (d - 1) (by rw [HTL.out]; omega) y x HTY.out (by rw [show d - 1 + 1 = d by omega]; exact HTX.out) _ (W.heap.size + 1) _ ((intsIn_take (HUV.out.below HW.out.fi.bel) (d + 1) (by rw [HZ.out]; omega)).mono (by omega)) HW.out.rc hj0 (by omega) hyb hxb false HQ.out r1 HR.out
                    refine (callsIn_wide.2 hcon).mono ?_
                    rintro e w' ⟨rfl, hbw, hkw⟩
                    gi_wp2_with fail
                    exact HRR.out _ (HW.out.bloom hkw hbw)
                  case hnp => rfl
                  case hv => first | exact ⟨_, fun _ => rfl⟩ | exact ⟨undef, fun _ => rfl⟩
                  apply obl_detIn
                  case hrun =>
                    intro D' y' wz hW hD R hR
                    have HRR := Lib.hid hR
                    clear hR hD
                    have HW := Lib.hid hW
                    clear hW
                    gi_wp2
                    exact HRR.out _ HW.out
                  case hnp => rfl
                  case hv => first | exact ⟨_, fun _ => rfl⟩ | exact ⟨undef, fun _ => rfl⟩
                  apply obl_nilIn
                  intro D' y' w8 hall hW8
                  have HW8 := Lib.hid hW8
                  clear hall hW8
                  simp only [Exit.then]
                  gi_wp2_with fail
                  refine ⟨?_, ?measure⟩
                  iterate 29 apply Exists.intro
                  refine ⟨?rel, rfl⟩
                  case rel => exact ⟨d + 1, j, by go_num, by omega, HW8.out, hj0, by omega, by omega, fun _ => by rw [Nat.add_sub_cancel, HX.out]; exact HBN.out⟩
                  case measure => simp [intOf]; omega
                · cases r1
                  · have HBN : Hid (bloomF s.jump s.times warm = bloomAt s.jump s.times (warm.drop (d + 1)) x (j + 1) (d + 1)) := by unfold Hid; rw [HBD.out, bloomAt, HQ.out, if_pos rfl, if_neg (by have := HR.out; simpa using this)]
                    gi_wp2_with fail
                    refine wpIn_region_inv0 (by kernel_rfl) (by kernel_rfl) (fun D2 W' => FL w (w.heap.size + 1) (w.heap.size + 1 + 1) (w.heap.size + 1 + 1 + 1) w1.heap.size (w1.heap.size + 1) W.heap.size D #[.int .i64 s.bend, .int .i64 s.days, .int .i64 s.jump, .int .i64 s.times, .int .i64 s.move, .slice a s.stores.length c] (.slice (some ⟨bu, ou, none⟩) way.length cu) (bendAt s.bend s.days warm 0 0) (-1) h (if D2 11 then j + 1 else j) W') (HF.out.call (Below.refl _ wr).drew) ?_
                    apply obl_detIn
                    case hrun =>
                      intro D' y' wz hW hD R hR
                      have HRR := Lib.hid hR
                      clear hR hD
                      have HW := Lib.hid hW
                      clear hW
                      gi_wp2
                      exact HRR.out _ HW.out
                    case hnp => rfl
                    case hv => first | exact ⟨_, fun _ => rfl⟩ | exact ⟨undef, fun _ => rfl⟩
                    apply obl_detIn
                    case hrun =>
                      intro D' y' wz hW hD R hR
                      have HRR := Lib.hid hR
                      clear hR hD
                      have HW := Lib.hid hW
                      have c8 := fun i => cell_of_row wz _ i _ _ _ hW.fi.r8
                      clear hW
                      gi_wp2
                      exact HRR.out _ HW.out
                    case hnp => rfl
                    case hv => first | exact ⟨_, fun _ => rfl⟩ | exact ⟨undef, fun _ => rfl⟩
                    apply obl_detIn
                    case hrun =>
                      intro D' y' wz hW hD R hR
                      have HRR := Lib.hid hR
                      clear hR hD
                      have HW := Lib.hid hW
                      have c8 := fun i => cell_of_row wz _ i _ _ _ hW.fi.r8
                      clear hW
                      gi_wp2
                      exact HRR.out _ HW.out
                    case hnp => rfl
                    case hv => first | exact ⟨_, fun _ => rfl⟩ | exact ⟨undef, fun _ => rfl⟩
                    apply obl_detIn
                    case hrun =>
                      intro D' y' wz hW hD R hR
                      have HRR := Lib.hid hR
                      clear hR hD
                      have HW := Lib.hid hW
                      have c8 := fun i => cell_of_row wz _ i _ _ _ hW.fi.r8
                      clear hW
                      gi_wp2
                      exact HRR.out _ HW.out
                    case hnp => rfl
                    case hv => first | exact ⟨_, fun _ => rfl⟩ | exact ⟨undef, fun _ => rfl⟩
                    apply obl_detIn
                    case hrun =>
                      intro D' y' wz hW hD R hR
                      have HRR := Lib.hid hR
                      clear hR hD
                      have HW := Lib.hid hW
                      have c5 := cell_of_row wz _ 0 _ _ _ hW.fi.r5
                      clear hW
                      gi_wp2
                      exact HRR.out _ HW.out
                    case hnp => rfl
                    case hv => first | exact ⟨_, fun _ => rfl⟩ | exact ⟨undef, fun _ => rfl⟩
                    apply obl_detIn
                    case hrun =>
                      intro D' y' wz hW hD R hR
                      have HRR := Lib.hid hR
                      clear hR hD
                      have HW := Lib.hid hW
                      clear hW
                      gi_wp2
                      exact HRR.out _ HW.out
                    case hnp => rfl
                    case hv => first | exact ⟨_, fun _ => rfl⟩ | exact ⟨undef, fun _ => rfl⟩
                    apply obl_detIn
                    case hrun =>
                      intro D' y' wz hW hD R hR
                      have HRR := Lib.hid hR
                      clear hR hD
                      have HW := Lib.hid hW
                      clear hW
                      gi_wp2
                      exact HRR.out _ HW.out
                    case hnp => rfl
                    case hv => first | exact ⟨_, fun _ => rfl⟩ | exact ⟨undef, fun _ => rfl⟩
                    apply obl_detIn
                    case hrun =>
                      intro D' y' wz hW hD R hR
                      have HRR := Lib.hid hR
                      clear hR hD
                      have HW := Lib.hid hW
                      clear hW
                      gi_wp2
                      exact HRR.out _ HW.out
                    case hnp => rfl
                    case hv => first | exact ⟨_, fun _ => rfl⟩ | exact ⟨undef, fun _ => rfl⟩
                    apply obl_detIn
                    case hrun =>
                      intro D' y' wz hW hD R hR
                      have HRR := Lib.hid hR
                      clear hR hD
                      have HW := Lib.hid hW
                      clear hW
                      gi_wp2
                      exact HRR.out _ HW.out
                    case hnp => rfl
                    case hv => first | exact ⟨_, fun _ => rfl⟩ | exact ⟨undef, fun _ => rfl⟩
                    apply obl_detIn
                    case hrun =>
                      intro D' y' wz hW hD R hR
                      have HRR := Lib.hid hR
                      clear hR hD
                      have HW := Lib.hid hW
                      have na := na85 (W.heap.size + 1) wz
                      conv at na in Option.getD _ _ => whnf
                      clear hW
                      gi_wp2
                      exact HRR.out _ HW.out
                    case hnp => rfl
                    case hv => first | exact ⟨_, fun _ => rfl⟩ | exact ⟨undef, fun _ => rfl⟩
                    apply obl_detIn
                    case hrun =>
                      intro D' y' wz hW hD R hR
                      have HRR := Lib.hid hR
                      clear hR hD
                      have HW := Lib.hid hW
                      clear hW
                      gi_wp2
                      exact HRR.out _ HW.out
                    case hnp => rfl
                    case hv => first | exact ⟨_, fun _ => rfl⟩ | exact ⟨undef, fun _ => rfl⟩
                    apply obl_detIn
                    case hrun =>
                      intro D' y' wz hW hD R hR
                      have hd := hD.not
                      have HRR := Lib.hid hR
                      clear hR hD
                      rw [hd] at hW
                      have HW := Lib.hid hW
                      clear hW
                      have me := me85 (W.heap.size + 1) wz
                      conv at me in Option.getD _ _ => whnf
                      gi_wp2_with fail
                      refine ⟨trivial, ?_⟩
                      have hcon := blooming_later s.bend s.days s.jump s.times j (warm.take (d + 1)) (d - 1) (by rw [HTL.out]; omega) y x HTY.out (by rw [show d - 1 + 1 = d by omega]; exact HTX.out) _ (W.heap.size + 1) _ ((intsIn_take (HUV.out.below HW.out.fi.bel) (d + 1) (by rw [HZ.out]; omega)).mono (by omega)) HW.out.rc hj0 (by omega) hyb hxb true HQ.out false HR.out
                      refine (callsIn_wide.2 hcon).mono ?_
                      rintro e w' ⟨rfl, hbw, hkw⟩
                      gi_wp2_with fail
                      exact HRR.out _ (HW.out.bloom hkw hbw)
                    case hnp => rfl
                    case hv => first | exact ⟨_, fun _ => rfl⟩ | exact ⟨undef, fun _ => rfl⟩
                    apply obl_detIn
                    case hrun =>
                      intro D' y' wz hW hD R hR
                      have HRR := Lib.hid hR
                      clear hR hD
                      have HW := Lib.hid hW
                      clear hW
                      gi_wp2
                      exact HRR.out _ HW.out
                    case hnp => rfl
                    case hv => first | exact ⟨_, fun _ => rfl⟩ | exact ⟨undef, fun _ => rfl⟩
                    apply obl_nilIn
                    intro D' y' w8 hall hW8
                    have hd11 := hall 11 (by decide)
                    simp only [hd11, if_true] at hW8
                    have HW8 := Lib.hid hW8
                    clear hall hW8 hd11
                    simp only [Exit.then]
                    gi_wp2_with fail
                    refine ⟨?_, ?measure⟩
                    iterate 29 apply Exists.intro
                    refine ⟨?rel, rfl⟩
                    case rel => exact ⟨d + 1, j + 1, by go_num, by omega, HW8.out, by omega, by omega, by omega, fun _ => by rw [Nat.add_sub_cancel, HX.out]; exact HBN.out⟩
                    case measure => simp [intOf]; omega
                  · have HBN : Hid (bloomF s.jump s.times warm = (d : Int)) := by unfold Hid; rw [HBD.out, bloomAt, HQ.out, if_pos rfl, if_pos (by have := HR.out; simpa using this)]
                    gi_wp2_with fail
                    refine wpIn_region_inv0 (by kernel_rfl) (by kernel_rfl) (fun D2 W' => FL w (w.heap.size + 1) (w.heap.size + 1 + 1) (w.heap.size + 1 + 1 + 1) w1.heap.size (w1.heap.size + 1) W.heap.size D #[.int .i64 s.bend, .int .i64 s.days, .int .i64 s.jump, .int .i64 s.times, .int .i64 s.move, .slice a s.stores.length c] (.slice (some ⟨bu, ou, none⟩) way.length cu) (bendAt s.bend s.days warm 0 0) (-1) h (if D2 11 then j + 1 else j) W') (HF.out.call (Below.refl _ wr).drew) ?_
                    apply obl_detIn
                    case hrun =>
                      intro D' y' wz hW hD R hR
                      have HRR := Lib.hid hR
                      clear hR hD
                      have HW := Lib.hid hW
                      clear hW
                      gi_wp2
                      exact HRR.out _ HW.out
                    case hnp => rfl
                    case hv => first | exact ⟨_, fun _ => rfl⟩ | exact ⟨undef, fun _ => rfl⟩
                    apply obl_detIn
                    case hrun =>
                      intro D' y' wz hW hD R hR
                      have HRR := Lib.hid hR
                      clear hR hD
                      have HW := Lib.hid hW
                      have c8 := fun i => cell_of_row wz _ i _ _ _ hW.fi.r8
                      clear hW
                      gi_wp2
                      exact HRR.out _ HW.out
                    case hnp => rfl
                    case hv => first | exact ⟨_, fun _ => rfl⟩ | exact ⟨undef, fun _ => rfl⟩
                    apply obl_detIn
                    case hrun =>
                      intro D' y' wz hW hD R hR
                      have HRR := Lib.hid hR
                      clear hR hD
                      have HW := Lib.hid hW
                      have c8 := fun i => cell_of_row wz _ i _ _ _ hW.fi.r8
                      clear hW
                      gi_wp2
                      exact HRR.out _ HW.out
                    case hnp => rfl
                    case hv => first | exact ⟨_, fun _ => rfl⟩ | exact ⟨undef, fun _ => rfl⟩
                    apply obl_detIn
                    case hrun =>
                      intro D' y' wz hW hD R hR
                      have HRR := Lib.hid hR
                      clear hR hD
                      have HW := Lib.hid hW
                      have c8 := fun i => cell_of_row wz _ i _ _ _ hW.fi.r8
                      clear hW
                      gi_wp2
                      exact HRR.out _ HW.out
                    case hnp => rfl
                    case hv => first | exact ⟨_, fun _ => rfl⟩ | exact ⟨undef, fun _ => rfl⟩
                    apply obl_detIn
                    case hrun =>
                      intro D' y' wz hW hD R hR
                      have HRR := Lib.hid hR
                      clear hR hD
                      have HW := Lib.hid hW
                      have c5 := cell_of_row wz _ 0 _ _ _ hW.fi.r5
                      clear hW
                      gi_wp2
                      exact HRR.out _ HW.out
                    case hnp => rfl
                    case hv => first | exact ⟨_, fun _ => rfl⟩ | exact ⟨undef, fun _ => rfl⟩
                    apply obl_detIn
                    case hrun =>
                      intro D' y' wz hW hD R hR
                      have HRR := Lib.hid hR
                      clear hR hD
                      have HW := Lib.hid hW
                      clear hW
                      gi_wp2
                      exact HRR.out _ HW.out
                    case hnp => rfl
                    case hv => first | exact ⟨_, fun _ => rfl⟩ | exact ⟨undef, fun _ => rfl⟩
                    apply obl_detIn
                    case hrun =>
                      intro D' y' wz hW hD R hR
                      have HRR := Lib.hid hR
                      clear hR hD
                      have HW := Lib.hid hW
                      clear hW
                      gi_wp2
                      exact HRR.out _ HW.out
                    case hnp => rfl
                    case hv => first | exact ⟨_, fun _ => rfl⟩ | exact ⟨undef, fun _ => rfl⟩
                    apply obl_detIn
                    case hrun =>
                      intro D' y' wz hW hD R hR
                      have HRR := Lib.hid hR
                      clear hR hD
                      have HW := Lib.hid hW
                      clear hW
                      gi_wp2
                      exact HRR.out _ HW.out
                    case hnp => rfl
                    case hv => first | exact ⟨_, fun _ => rfl⟩ | exact ⟨undef, fun _ => rfl⟩
                    apply obl_detIn
                    case hrun =>
                      intro D' y' wz hW hD R hR
                      have HRR := Lib.hid hR
                      clear hR hD
                      have HW := Lib.hid hW
                      clear hW
                      gi_wp2
                      exact HRR.out _ HW.out
                    case hnp => rfl
                    case hv => first | exact ⟨_, fun _ => rfl⟩ | exact ⟨undef, fun _ => rfl⟩
                    apply obl_detIn
                    case hrun =>
                      intro D' y' wz hW hD R hR
                      have HRR := Lib.hid hR
                      clear hR hD
                      have HW := Lib.hid hW
                      have na := na85 (W.heap.size + 1) wz
                      conv at na in Option.getD _ _ => whnf
                      clear hW
                      gi_wp2
                      exact HRR.out _ HW.out
                    case hnp => rfl
                    case hv => first | exact ⟨_, fun _ => rfl⟩ | exact ⟨undef, fun _ => rfl⟩
                    apply obl_detIn
                    case hrun =>
                      intro D' y' wz hW hD R hR
                      have HRR := Lib.hid hR
                      clear hR hD
                      have HW := Lib.hid hW
                      clear hW
                      gi_wp2
                      exact HRR.out _ HW.out
                    case hnp => rfl
                    case hv => first | exact ⟨_, fun _ => rfl⟩ | exact ⟨undef, fun _ => rfl⟩
                    apply obl_detIn
                    case hrun =>
                      intro D' y' wz hW hD R hR
                      have hd := hD.not
                      have HRR := Lib.hid hR
                      clear hR hD
                      rw [hd] at hW
                      have HW := Lib.hid hW
                      clear hW
                      have me := me85 (W.heap.size + 1) wz
                      conv at me in Option.getD _ _ => whnf
                      gi_wp2_with fail
                      refine ⟨trivial, ?_⟩
                      have hcon := blooming_later s.bend s.days s.jump s.times j (warm.take (d + 1)) (d - 1) (by rw [HTL.out]; omega) y x HTY.out (by rw [show d - 1 + 1 = d by omega]; exact HTX.out) _ (W.heap.size + 1) _ ((intsIn_take (HUV.out.below HW.out.fi.bel) (d + 1) (by rw [HZ.out]; omega)).mono (by omega)) HW.out.rc hj0 (by omega) hyb hxb true HQ.out true HR.out
                      refine (callsIn_wide.2 hcon).mono ?_
                      rintro e w' ⟨rfl, hbw, hkw⟩
                      gi_wp2_with fail
                      exact HRR.out _ (HW.out.bloom hkw hbw)
                    case hnp => rfl
                    case hv => first | exact ⟨_, fun _ => rfl⟩ | exact ⟨undef, fun _ => rfl⟩
                    apply obl_detIn
                    case hrun =>
                      intro D' y' wz hW hD R hR
                      have HRR := Lib.hid hR
                      clear hR hD
                      have HW := Lib.hid hW
                      clear hW
                      gi_wp2
                      exact HRR.out _ HW.out
                    case hnp => rfl
                    case hv => first | exact ⟨_, fun _ => rfl⟩ | exact ⟨undef, fun _ => rfl⟩
                    apply obl_nilIn
                    intro D' y' w8 hall hW8
                    have hd11 := hall 11 (by decide)
                    simp only [hd11, if_true] at hW8
                    have HW8 := Lib.hid hW8
                    clear hall hW8 hd11
                    simp only [Exit.then]
                    have c6 := fun i => cell_of_row w8 _ i _ _ _ HW8.out.fi.r6
                    have f6 := fun i => frozen_of_row w8 _ i _ _ HW8.out.fi.r6
                    have ta := ta85n (W.heap.size + 1) w8
                    have tb := ta85 (W.heap.size + 1) w8
                    gi_wp2_with fail
                    refine ⟨⟨2, h, j + 1, rfl, by omega, ?_, fun h => by omega, fun h => by omega⟩, ?measure⟩
                    · have := HW8.out.setf (g1 := bendAt s.bend s.days warm 0 0) (g2 := bloomF s.jump s.times warm) 1 (.int .i64 (d : Int)) (by rw [HBN.out]; rfl)
                      exact this
                    case measure => simp [intOf]

            · gi_wp2_with fail
              refine ⟨⟨2, h, j, rfl, by omega, ?_, fun h => by omega, fun h => by omega⟩, ?measure⟩
              · have hb : bloomF s.jump s.times warm = -1 := by
                  have h1 := HZ.out
                  rw [HBL.out (by omega), List.drop_eq_nil_of_le (by omega)]; rfl
                rw [if_neg (show ¬ (2 : Nat) = 0 by omega), if_neg (show ¬ (2 : Nat) ≤ 1 by omega), hb]
                exact HF.out
              case measure => simp [intOf]
        · obtain rfl : m = 2 := by omega
          have HF : Hid (FL w (w.heap.size + 1) (w.heap.size + 1 + 1) (w.heap.size + 1 + 1 + 1) w1.heap.size (w1.heap.size + 1) W.heap.size D #[.int .i64 s.bend, .int .i64 s.days, .int .i64 s.jump, .int .i64 s.times, .int .i64 s.move, .slice a s.stores.length c] (.slice au way.length cu) (bendAt s.bend s.days warm 0 0) (bloomF s.jump s.times warm) h j wr) := hF
          clear hF
          have c7 := cell_of_row wr _ 0 _ _ _ HF.out.fi.r7
          have f7 := frozen_of_row wr _ 0 _ _ HF.out.fi.r7
          gi_wp2_with (first | (refine wpListIn_load_row rfl 23 _ rfl _ rfl _ _ _ _ HF.out.fi.r6 Try.underlying23 rfl info23 ?_) | (refine wpListIn_store_row rfl 23 _ _ rfl _ #[.int .i64 (bendAt s.bend s.days warm 0 0), .int .i64 (bloomF s.jump s.times warm)] rfl rfl _ _ HF.out.fi.r6 info23 rfl (by simp [Value.oneCell']) ?_; rw [setRow_self HF.out.fi.r6]))
          have hDW : W0.heap.size ≤ D := hD
          have hF7 := HF.out.fi.set7 0 (by omega) (by omega) (by omega) (by omega) (by omega)
          have hK7 : (wr.setCell ⟨w.heap.size + 1 + 1 + 1, 0, none⟩ (.int .i64 0)).heap[D]? = some (.deferred (some [])) := (heap_setCell_other _ _ _ _ (show D ≠ w.heap.size + 1 + 1 + 1 by omega)).trans HF.out.rd
          generalize wr.setCell ⟨w.heap.size + 1 + 1 + 1, 0, none⟩ (.int .i64 0) = w8 at hF7 hK7 ⊢
          have hb8 : Below w.heap.size w8 (w8.putObj D (.deferred none)) := belowK_b (Nat.le_trans (by omega) hbel.size) w8 D _ _ (by omega) hK7 rfl rfl
          have r6 : (w8.putObj D (.deferred none)).heap[w.heap.size + 1 + 1]? = some (.cells #[.int .i64 (bendAt s.bend s.days warm 0 0), .int .i64 (bloomF s.jump s.times warm)] 23) := (Array.getElem?_setIfInBounds_ne (show D ≠ w.heap.size + 1 + 1 by omega)).trans hF7.r6
          have r7 : (w8.putObj D (.deferred none)).heap[w.heap.size + 1 + 1 + 1]? = some (.cells #[.int .i64 0] 24) := (Array.getElem?_setIfInBounds_ne (show D ≠ w.heap.size + 1 + 1 + 1 by omega)).trans hF7.r7
          refine ⟨by simp, .inl ⟨_, _, rfl, run_takeDeferred hK7, ?_⟩⟩
          simp only [LeavesInM, LeavesIn]
          exact ⟨.tuple #[.agg #[.int .i64 (bendAt s.bend s.days warm 0 0), .int .i64 (bloomF s.jump s.times warm)], .int .i64 0], fate_ret r6 r7 _ rfl rfl, by rw [HC.out], hF7.bel.trans hb8⟩
/-- **Fate**, at any season, way and warmth. -/
theorem fate_any (s : Sea) (vs wv uv : Value) (way warm : List Int) (w : World) (hv : StosIn w.heap.size w vs s.stores) (hw : IntsIn .i64 w.heap.size w wv way) (hu : IntsIn .i64 w.heap.size w uv warm) (hcap : CapOk uv warm.length) :
    Calls Try.prog 14 #[.agg #[.int .i64 s.bend, .int .i64 s.days, .int .i64 s.jump, .int .i64 s.times, .int .i64 s.move, vs], wv, uv] w
      fun e' w' => e' = .returned (.tuple #[.agg #[.int .i64 (fateV s way warm).1, .int .i64 (fateV s way warm).2.1], .int .i64 (fateV s way warm).2.2]) ∧ Below w.heap.size w w' := by
  by_cases he : openE s way = 0
  · by_cases hl : warm.length = way.length
    · exact fate_good s vs wv uv way warm w hv hw hu hcap he hl
    · have := fate_len s vs wv uv way warm w hv hw hu he hl
      unfold fateV
      rw [if_pos he, if_neg hl]
      exact this
  · have := fate_bad s vs wv uv way warm w hv hw hu _ rfl he
    unfold fateV
    rw [if_neg he]
    exact this
end Go.Proofs.Ytddapabmfecidaa
