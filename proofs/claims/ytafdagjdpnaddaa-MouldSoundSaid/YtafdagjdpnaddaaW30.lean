/- stearinref05.Same. -/
import Derived.Test.YtafdagjdpnaddaaW28
namespace Go.Proofs.Ytafdagjdpnaddaa
open Go.RowKit
theorem ownsRow.other {w w' : World} {base X : Nat} {v : Value} {n sz : Nat} {e : TypeId} {xs : List Value} (h : w.ownsRow base e sz v n xs) (hX : X < base) (hk : ∀ k, k ≠ X → w'.heap[k]? = w.heap[k]?) : w'.ownsRow base e sz v n xs := by
  refine ⟨h.1, ?_⟩
  rcases h.2 with h0 | ⟨g, cap, cur, rfl, h1, h2, h3⟩
  · exact .inl h0
  · exact .inr ⟨g, cap, cur, rfl, h1, (hk g (by omega)).trans h2, h3⟩
theorem LV.ke {g r : Nat} {W w : World} {v : Value} {l : List Int} (h : LV g r W v l) (hk : ∀ b, b < W.heap.size → b ≠ g → w.heap[b]? = W.heap[b]?) (hs : W.heap.size ≤ w.heap.size) : LV g r w v l := by
  obtain ⟨b, o, c, rfl, hg, hlt, hc⟩ := h
  exact ⟨b, o, c, rfl, hg, by omega, fun i hi => by rw [← hc i hi]; simp only [World.cell?, hk b hlt hg]⟩
/-- One cell is stored; all other blocks are kept, and the size. -/
theorem wpList_cell_bz {P : Program} {ops : Array Oper} {rest : List Oper} {o : Oper} {a : Act} {w0 w : World} {Q : Exit → Act → World → Prop} {l : List (Nat × Obj)} (hgd : o.guard = none) (ty : TypeId) (x y : Operand) (ho : o.op = .store ty x y) (H : Bs w0 l w) (i g j : Nat) (old : Array Value) (t : TypeId) (hi : l[i]? = some (g, .cells old t))
    (hx : a.eval x = .pointer (some ⟨g, j, none⟩)) (v : Value) (hy : a.eval y = v) (hj : j < old.size) (h1 : v.oneCell' = true) (hn : (P.info? ty).map (·.size) = some 1)
    (h : ∀ w', Bs w0 (l.set i (g, .cells (old.setIfInBounds j v) t)) w' → (∀ k, k ≠ g → w'.heap[k]? = w.heap[k]?) → w'.heap.size = w.heap.size → wpList P ops Q rest (a.put o.dst undef) w') : wpList P ops Q (o :: rest) a w :=
  wpList_plain hgd fun _ hK => by
    have hc : w.cell? ⟨g, j, none⟩ = some old[j] := by rw [H.cell i hi]; simp [hj]
    unfold Oper.wp execOp
    simp only [ho, hx, hy, Instr.storeAt, Instr.sureAddr, Sem.run_bind, Sem.run_pure, Result.andThen_ok, run_store_at w g j ty v _ h1 hc (H.free i hi j) hn]
    exact hK _ _ (h _ (H.setCell i hi j v) (fun k hk => heap_setCell_other _ _ _ _ hk) (by simp))
theorem info26 : (Try.prog.info? 26).map (·.size) = some 1 := by kernel_rfl
def RetT (p ws : List Int) (w : World) (e : Ending) (w' : World) : Prop := ∃ v1 v2, e = .returned (.agg #[v1, v2]) ∧ IntsIn .i64 w'.heap.size w' v1 p ∧ IntsIn .i64 w'.heap.size w' v2 ws ∧ Below w.heap.size w w'
/-- All blocks below base but g are as they were. -/
def KB (base g : Nat) (W w : World) : Prop := ∀ b, b < base → b ≠ g → w.heap[b]? = W.heap[b]?
set_option maxRecDepth 100000 in
set_option maxHeartbeats 16000000 in
theorem same_ref (m : Mou) (hm : Valid m) (hot : Bool) (N : Nat) (hN : N ≤ 600) (w : World) :
    Calls Try.prog 41 #[.agg #[.int .i64 m.rings, .int .i64 m.give, .int .i64 m.pl, .int .i64 m.ph, .int .i64 m.wl, .int .i64 m.wh, .int .i64 m.set, .int .i64 m.shrink, .int .i64 m.skin, .int .i64 m.fill, .int .i64 m.gap, .int .i64 m.deep], .bool hot, .int .i64 N] w (RetT (sameP m hot) (sameW m hot N) w) := by
  have C0 := Lib.hid (((Bs.nil w).push _ rfl (.cells #[.int .i64 m.rings, .int .i64 m.give, .int .i64 m.pl, .int .i64 m.ph, .int .i64 m.wl, .int .i64 m.wh, .int .i64 m.set, .int .i64 m.shrink, .int .i64 m.skin, .int .i64 m.fill, .int .i64 m.gap, .int .i64 m.deep] 25)).push (w.heap.size + 1) (by simp) (.cells #[.slice none 0 0, .slice none 0 0] 28))
  obtain ⟨r, hr⟩ : ∃ r : Nat, m.rings = r := ⟨m.rings.toNat, by have := hm.r1; omega⟩
  have hr8 : r ≤ 8 := by have := hm.r8; omega
  have hr1 : 1 ≤ r := by have := hm.r1; omega
  have c0 := C0.out.cell 0 rfl
  have HR := Lib.hid hr
  clear hr
  obtain ⟨i0, hi0, hz0, hz1, hz2⟩ := info3'
  go_enter Try.func41, Try.ntmps41
  cases hot
  · skip
    go_wp2_with fail
    go_quiet (fail)
    revert nq
    intro nq1
    simp only [Exit.then]
    go_wp2_with fail
    have CB := Lib.hid ((C0.out.drewN nq1).push (w.heap.size + 1 + 1) (by show ((w.alloc _).alloc _).heap.size = _; simp) (.cells #[.slice none 0 0, .slice none 0 0] 28))
    clear c0 C0
    go_loopw [10] (fun iv wr => ∃ (k : Nat) (lv : Value), iv = .int .i64 k ∧ k ≤ r ∧ Bs w [(w.heap.size, .cells #[.int .i64 m.rings, .int .i64 m.give, .int .i64 m.pl, .int .i64 m.ph, .int .i64 m.wl, .int .i64 m.wh, .int .i64 m.set, .int .i64 m.shrink, .int .i64 m.skin, .int .i64 m.fill, .int .i64 m.gap, .int .i64 m.deep] 25), (w.heap.size + 1, .cells #[.slice none 0 0, .slice none 0 0] 28), (w.heap.size + 1 + 1, .cells #[lv, .slice none 0 0] 28)] wr ∧ wr.ownsRow (w.heap.size + 1 + 1 + 1) 3 1 lv k ((List.replicate k m.pl).map (Value.int .i64))) (fun iv _ => r - (intOf iv).toNat)
    case atStart => exact ⟨0, .slice none 0 0, rfl, by omega, CB.out, World.ownsRow_nil _ _ 3 1⟩
    case round =>
      obtain ⟨k, lv, rfl, hk, hC, hO⟩ := hrel
      have CK := Lib.hid hC
      have OK := Lib.hid hO
      have c9 := hC.cell 2 rfl
      have hsz : w.heap.size + 1 + 1 < wr.heap.size := hC.lt 2 rfl
      have c00 : wr.cell? ⟨w.heap.size, 0, none⟩ = some (.int .i64 r) := by
        rw [hC.cell 0 rfl, ← HR.out]
        rfl
      clear hO hC CB
      by_cases hlt : k < r
      · have hki : (k : Int) < (r : Int) := by omega
        go_wp2_with (first
          | (at_builtin; refine wpList_append_own _ rfl _ _ 26 rfl (w.heap.size + 1 + 1 + 1) 3 i0 (.int .i64 0) 1 8 Try.underlying26 hi0 hz0 hz1 hz2 rfl (by decide) lv k _ rfl (OK.out.alloc _) ⟨_, 0, none⟩ 1 1 [.int .i64 m.pl] rfl rfl (cell_news _ _ _ _ (heap_alloc_new _ _)) (one_int _) (by unfold maxLen; omega) (by omega) (by simp; omega) ?_; intro v' w12 hown12 hgrow12 _; have hlt12 := World.ownsRow.lt OK.out; have hb12 : Below (w.heap.size + 1 + 1 + 1) wr w12 := ((Below.refl (w.heap.size + 1 + 1 + 1) wr).alloc (by omega) (.cells #[.int .i64 m.pl] 3)).grown hgrow12 (by simp; omega) (fun k e => (hlt12 k e).1); obtain ⟨av', cv', rfl⟩ := ownsRow_slice1 hown12; have C8 := CK.out.app hb12 (by simp; omega) (by omega); have OW := Lib.hid hown12; clear hown12 hgrow12 hlt12)
          | (refine wpList_cell_bz rfl 26 _ _ rfl C8 2 (w.heap.size + 1 + 1) 0 _ _ rfl rfl (.slice av' (k + 1) cv') rfl (by simp) rfl info26 ?_; intro w13 hC13 hk13 hs13))
        refine ⟨⟨k + 1, .slice av' (k + 1) cv', by push_cast; rfl, by omega, hC13, ?_⟩, ?_⟩
        · rw [List.replicate_succ', List.map_append]
          exact ownsRow.other OW.out (X := w.heap.size + 1 + 1) (by omega) hk13
        · simp [intOf]
          omega
      · obtain rfl : r = k := by omega
        have CE := Lib.hid CK.out
        have HI1 : Hid (LV (w.heap.size + 1 + 1) r wr lv (List.replicate r m.pl)) := LV.own (l := List.replicate r m.pl) (base := w.heap.size + 1 + 1 + 1) (by unfold OwnInts; rw [List.length_replicate]; exact OK.out) (by simp) hr1 (fun b h1 _ => by omega) (by omega)
        have HB1 := Lib.hid (World.ownsRow.lt OK.out)
        go_wp2_with fail
        clear c00 c9 OK CK
        generalize wr = W2 at *
        go_loopw [11] (fun iv wr => ∃ (k : Nat) (lu : Value), iv = .int .i64 k ∧ k ≤ N ∧ Bs w [(w.heap.size, .cells #[.int .i64 m.rings, .int .i64 m.give, .int .i64 m.pl, .int .i64 m.ph, .int .i64 m.wl, .int .i64 m.wh, .int .i64 m.set, .int .i64 m.shrink, .int .i64 m.skin, .int .i64 m.fill, .int .i64 m.gap, .int .i64 m.deep] 25), (w.heap.size + 1, .cells #[.slice none 0 0, .slice none 0 0] 28), (w.heap.size + 1 + 1, .cells #[lv, lu] 28)] wr ∧ wr.ownsRow (W2.heap.size) 3 1 lu k ((List.replicate k m.wl).map (Value.int .i64)) ∧ KB W2.heap.size (w.heap.size + 1 + 1) W2 wr ∧ W2.heap.size ≤ wr.heap.size) (fun iv _ => N - (intOf iv).toNat)
        case atStart => exact ⟨0, .slice none 0 0, rfl, by omega, CE.out, World.ownsRow_nil _ _ 3 1, fun b _ _ => rfl, Nat.le_refl _⟩
        case round =>
          obtain ⟨k, lu, rfl, hk, hC, hO, hKB, hS⟩ := hrel
          have CK := Lib.hid hC
          have OK := Lib.hid hO
          have c9 := hC.cell 2 rfl
          have hsz : w.heap.size + 1 + 1 < wr.heap.size := hC.lt 2 rfl
          have hs2 : W2.heap.size ≤ wr.heap.size := hS
          have HKB := Lib.hid hKB
          have HS := Lib.hid hS
          clear hKB hS
          clear hO hC CE
          by_cases hlt : k < N
          · have hki : (k : Int) < (N : Int) := by omega
            go_wp2_with (first
              | (at_builtin; refine wpList_append_own _ rfl _ _ 26 rfl (W2.heap.size) 3 i0 (.int .i64 0) 1 8 Try.underlying26 hi0 hz0 hz1 hz2 rfl (by decide) lu k _ rfl (OK.out.alloc _) ⟨_, 0, none⟩ 1 1 [.int .i64 m.wl] rfl rfl (cell_news _ _ _ _ (heap_alloc_new _ _)) (one_int _) (by unfold maxLen; omega) (by omega) (by simp; omega) ?_; intro v' w12 hown12 hgrow12 _; have hlt12 := World.ownsRow.lt OK.out; have hb12 : Below (W2.heap.size) wr w12 := ((Below.refl (W2.heap.size) wr).alloc (by omega) (.cells #[.int .i64 m.wl] 3)).grown hgrow12 (by simp; omega) (fun k e => (hlt12 k e).1); obtain ⟨av', cv', rfl⟩ := ownsRow_slice1 hown12; have C8 := CK.out.app hb12 (by simp; omega) (by omega); have OW := Lib.hid hown12; clear hown12 hgrow12 hlt12)
              | (refine wpList_cell_bz rfl 26 _ _ rfl C8 2 (w.heap.size + 1 + 1) 1 _ _ rfl rfl (.slice av' (k + 1) cv') rfl (by simp) rfl info26 ?_; intro w13 hC13 hk13 hs13))
            refine ⟨⟨k + 1, .slice av' (k + 1) cv', by push_cast; rfl, by omega, hC13, ?_, fun b hb hn => (hk13 b hn).trans ((hb12.block b hb).trans (HKB.out b hb hn)), by have := hb12.size; omega⟩, ?_⟩
            · rw [List.replicate_succ', List.map_append]
              exact ownsRow.other OW.out (X := w.heap.size + 1 + 1) (by omega) hk13
            · simp [intOf]
              omega
          · obtain rfl : N = k := by omega
            have CF := Lib.hid CK.out
            have HL2 : Hid (LV (w.heap.size + 1 + 1) r wr lv (List.replicate r m.pl)) := LV.ke HI1.out HKB.out hs2
            have HO2 : Hid (IntsIn .i64 wr.heap.size wr lu (List.replicate N m.wl)) := OwnInts.ints (base := W2.heap.size) (by unfold OwnInts; rw [List.length_replicate]; exact OK.out) (by simp; omega)
            have HNE := Lib.hid (World.ownsRow.lt OK.out)
            obtain ⟨a2, n2, rfl⟩ := ownsRow_slice OK.out
            obtain ⟨bl, ol, cl, rfl, hbl1, hbl2, hbl3⟩ := HL2.out
            have HC3 := Lib.hid hbl3
            clear hbl3
            go_wp2_with (first
              | refine wpList_load_row rfl 28 _ rfl _ rfl _ _ _ _ (CF.out.get 2 rfl) Try.underlying28 rfl info28 ?_
              | refine wpList_store_row rfl 28 _ _ rfl (w.heap.size + 1) #[.slice (some ⟨bl, ol, none⟩) r cl, .slice a2 N n2] rfl rfl 28 _ (CF.out.get 1 rfl) info28 rfl (by simp [Value.oneCell']) ?_)
            have hB1 := (HB1.out bl rfl).1
            have L3 : LV (w.heap.size + 1) r (wr.setRow (w.heap.size + 1) #[.slice (some ⟨bl, ol, none⟩) r cl, .slice a2 N n2]) (.slice (some ⟨bl, ol, none⟩) r cl) (List.replicate r m.pl) := LV.other (w := wr) ⟨bl, ol, cl, rfl, by omega, hbl2, HC3.out⟩ (fun k hk => setRow_other _ _ _ _ hk)
            have I1 := L3.ints (by simp) (by omega)
            have I2 : IntsIn .i64 (wr.setRow (w.heap.size + 1) #[.slice (some ⟨bl, ol, none⟩) r cl, .slice a2 N n2]).heap.size (wr.setRow (w.heap.size + 1) #[.slice (some ⟨bl, ol, none⟩) r cl, .slice a2 N n2]) (.slice a2 N n2) (List.replicate N m.wl) := OwnInts.ints (base := W2.heap.size) (by unfold OwnInts; rw [List.length_replicate]; exact ownsRow.setRow OK.out (by omega) _) (by simp; omega)
            have e1 : sameP m false = List.replicate r m.pl := by unfold sameP; rw [HR.out]; rfl
            have e2 : sameW m false N = List.replicate N m.wl := rfl
            rw [e1, e2]
            exact bodyPost_ret (v := .agg #[.slice (some ⟨bl, ol, none⟩) r cl, .slice a2 N n2]) (results_cell_row (fn := Try.f41) rfl _ _ _ _ _ _ _ rfl (setRow_heap _ _ _ _ _ _ (CF.out.get 1 rfl)) Try.underlying28 rfl info28) rfl ⟨_, _, rfl, I1, I2, below_setRow CF.out.bel (by omega) _⟩
  · skip
    go_wp2_with fail
    go_quiet (fail)
    revert nq
    intro nq1
    simp only [Exit.then]
    go_wp2_with fail
    go_quiet (fail)
    revert nq
    intro nq2
    simp only [Exit.then]
    go_wp2_with fail
    have CB := Lib.hid ((C0.out.drewN (nq1 + nq2)).push (w.heap.size + 1 + 1) (by show ((w.alloc _).alloc _).heap.size = _; simp) (.cells #[.slice none 0 0, .slice none 0 0] 28))
    clear c0 C0
    go_loopw [10] (fun iv wr => ∃ (k : Nat) (lv : Value), iv = .int .i64 k ∧ k ≤ r ∧ Bs w [(w.heap.size, .cells #[.int .i64 m.rings, .int .i64 m.give, .int .i64 m.pl, .int .i64 m.ph, .int .i64 m.wl, .int .i64 m.wh, .int .i64 m.set, .int .i64 m.shrink, .int .i64 m.skin, .int .i64 m.fill, .int .i64 m.gap, .int .i64 m.deep] 25), (w.heap.size + 1, .cells #[.slice none 0 0, .slice none 0 0] 28), (w.heap.size + 1 + 1, .cells #[lv, .slice none 0 0] 28)] wr ∧ wr.ownsRow (w.heap.size + 1 + 1 + 1) 3 1 lv k ((List.replicate k m.ph).map (Value.int .i64))) (fun iv _ => r - (intOf iv).toNat)
    case atStart => exact ⟨0, .slice none 0 0, rfl, by omega, CB.out, World.ownsRow_nil _ _ 3 1⟩
    case round =>
      obtain ⟨k, lv, rfl, hk, hC, hO⟩ := hrel
      have CK := Lib.hid hC
      have OK := Lib.hid hO
      have c9 := hC.cell 2 rfl
      have hsz : w.heap.size + 1 + 1 < wr.heap.size := hC.lt 2 rfl
      have c00 : wr.cell? ⟨w.heap.size, 0, none⟩ = some (.int .i64 r) := by
        rw [hC.cell 0 rfl, ← HR.out]
        rfl
      clear hO hC CB
      by_cases hlt : k < r
      · have hki : (k : Int) < (r : Int) := by omega
        go_wp2_with (first
          | (at_builtin; refine wpList_append_own _ rfl _ _ 26 rfl (w.heap.size + 1 + 1 + 1) 3 i0 (.int .i64 0) 1 8 Try.underlying26 hi0 hz0 hz1 hz2 rfl (by decide) lv k _ rfl (OK.out.alloc _) ⟨_, 0, none⟩ 1 1 [.int .i64 m.ph] rfl rfl (cell_news _ _ _ _ (heap_alloc_new _ _)) (one_int _) (by unfold maxLen; omega) (by omega) (by simp; omega) ?_; intro v' w12 hown12 hgrow12 _; have hlt12 := World.ownsRow.lt OK.out; have hb12 : Below (w.heap.size + 1 + 1 + 1) wr w12 := ((Below.refl (w.heap.size + 1 + 1 + 1) wr).alloc (by omega) (.cells #[.int .i64 m.ph] 3)).grown hgrow12 (by simp; omega) (fun k e => (hlt12 k e).1); obtain ⟨av', cv', rfl⟩ := ownsRow_slice1 hown12; have C8 := CK.out.app hb12 (by simp; omega) (by omega); have OW := Lib.hid hown12; clear hown12 hgrow12 hlt12)
          | (refine wpList_cell_bz rfl 26 _ _ rfl C8 2 (w.heap.size + 1 + 1) 0 _ _ rfl rfl (.slice av' (k + 1) cv') rfl (by simp) rfl info26 ?_; intro w13 hC13 hk13 hs13))
        refine ⟨⟨k + 1, .slice av' (k + 1) cv', by push_cast; rfl, by omega, hC13, ?_⟩, ?_⟩
        · rw [List.replicate_succ', List.map_append]
          exact ownsRow.other OW.out (X := w.heap.size + 1 + 1) (by omega) hk13
        · simp [intOf]
          omega
      · obtain rfl : r = k := by omega
        have CE := Lib.hid CK.out
        have HI1 : Hid (LV (w.heap.size + 1 + 1) r wr lv (List.replicate r m.ph)) := LV.own (l := List.replicate r m.ph) (base := w.heap.size + 1 + 1 + 1) (by unfold OwnInts; rw [List.length_replicate]; exact OK.out) (by simp) hr1 (fun b h1 _ => by omega) (by omega)
        have HB1 := Lib.hid (World.ownsRow.lt OK.out)
        go_wp2_with fail
        clear c00 c9 OK CK
        generalize wr = W2 at *
        go_loopw [11] (fun iv wr => ∃ (k : Nat) (lu : Value), iv = .int .i64 k ∧ k ≤ N ∧ Bs w [(w.heap.size, .cells #[.int .i64 m.rings, .int .i64 m.give, .int .i64 m.pl, .int .i64 m.ph, .int .i64 m.wl, .int .i64 m.wh, .int .i64 m.set, .int .i64 m.shrink, .int .i64 m.skin, .int .i64 m.fill, .int .i64 m.gap, .int .i64 m.deep] 25), (w.heap.size + 1, .cells #[.slice none 0 0, .slice none 0 0] 28), (w.heap.size + 1 + 1, .cells #[lv, lu] 28)] wr ∧ wr.ownsRow (W2.heap.size) 3 1 lu k ((List.replicate k m.wh).map (Value.int .i64)) ∧ KB W2.heap.size (w.heap.size + 1 + 1) W2 wr ∧ W2.heap.size ≤ wr.heap.size) (fun iv _ => N - (intOf iv).toNat)
        case atStart => exact ⟨0, .slice none 0 0, rfl, by omega, CE.out, World.ownsRow_nil _ _ 3 1, fun b _ _ => rfl, Nat.le_refl _⟩
        case round =>
          obtain ⟨k, lu, rfl, hk, hC, hO, hKB, hS⟩ := hrel
          have CK := Lib.hid hC
          have OK := Lib.hid hO
          have c9 := hC.cell 2 rfl
          have hsz : w.heap.size + 1 + 1 < wr.heap.size := hC.lt 2 rfl
          have hs2 : W2.heap.size ≤ wr.heap.size := hS
          have HKB := Lib.hid hKB
          have HS := Lib.hid hS
          clear hKB hS
          clear hO hC CE
          by_cases hlt : k < N
          · have hki : (k : Int) < (N : Int) := by omega
            go_wp2_with (first
              | (at_builtin; refine wpList_append_own _ rfl _ _ 26 rfl (W2.heap.size) 3 i0 (.int .i64 0) 1 8 Try.underlying26 hi0 hz0 hz1 hz2 rfl (by decide) lu k _ rfl (OK.out.alloc _) ⟨_, 0, none⟩ 1 1 [.int .i64 m.wh] rfl rfl (cell_news _ _ _ _ (heap_alloc_new _ _)) (one_int _) (by unfold maxLen; omega) (by omega) (by simp; omega) ?_; intro v' w12 hown12 hgrow12 _; have hlt12 := World.ownsRow.lt OK.out; have hb12 : Below (W2.heap.size) wr w12 := ((Below.refl (W2.heap.size) wr).alloc (by omega) (.cells #[.int .i64 m.wh] 3)).grown hgrow12 (by simp; omega) (fun k e => (hlt12 k e).1); obtain ⟨av', cv', rfl⟩ := ownsRow_slice1 hown12; have C8 := CK.out.app hb12 (by simp; omega) (by omega); have OW := Lib.hid hown12; clear hown12 hgrow12 hlt12)
              | (refine wpList_cell_bz rfl 26 _ _ rfl C8 2 (w.heap.size + 1 + 1) 1 _ _ rfl rfl (.slice av' (k + 1) cv') rfl (by simp) rfl info26 ?_; intro w13 hC13 hk13 hs13))
            refine ⟨⟨k + 1, .slice av' (k + 1) cv', by push_cast; rfl, by omega, hC13, ?_, fun b hb hn => (hk13 b hn).trans ((hb12.block b hb).trans (HKB.out b hb hn)), by have := hb12.size; omega⟩, ?_⟩
            · rw [List.replicate_succ', List.map_append]
              exact ownsRow.other OW.out (X := w.heap.size + 1 + 1) (by omega) hk13
            · simp [intOf]
              omega
          · obtain rfl : N = k := by omega
            have CF := Lib.hid CK.out
            have HL2 : Hid (LV (w.heap.size + 1 + 1) r wr lv (List.replicate r m.ph)) := LV.ke HI1.out HKB.out hs2
            have HO2 : Hid (IntsIn .i64 wr.heap.size wr lu (List.replicate N m.wh)) := OwnInts.ints (base := W2.heap.size) (by unfold OwnInts; rw [List.length_replicate]; exact OK.out) (by simp; omega)
            have HNE := Lib.hid (World.ownsRow.lt OK.out)
            obtain ⟨a2, n2, rfl⟩ := ownsRow_slice OK.out
            obtain ⟨bl, ol, cl, rfl, hbl1, hbl2, hbl3⟩ := HL2.out
            have HC3 := Lib.hid hbl3
            clear hbl3
            go_wp2_with (first
              | refine wpList_load_row rfl 28 _ rfl _ rfl _ _ _ _ (CF.out.get 2 rfl) Try.underlying28 rfl info28 ?_
              | refine wpList_store_row rfl 28 _ _ rfl (w.heap.size + 1) #[.slice (some ⟨bl, ol, none⟩) r cl, .slice a2 N n2] rfl rfl 28 _ (CF.out.get 1 rfl) info28 rfl (by simp [Value.oneCell']) ?_)
            have hB1 := (HB1.out bl rfl).1
            have L3 : LV (w.heap.size + 1) r (wr.setRow (w.heap.size + 1) #[.slice (some ⟨bl, ol, none⟩) r cl, .slice a2 N n2]) (.slice (some ⟨bl, ol, none⟩) r cl) (List.replicate r m.ph) := LV.other (w := wr) ⟨bl, ol, cl, rfl, by omega, hbl2, HC3.out⟩ (fun k hk => setRow_other _ _ _ _ hk)
            have I1 := L3.ints (by simp) (by omega)
            have I2 : IntsIn .i64 (wr.setRow (w.heap.size + 1) #[.slice (some ⟨bl, ol, none⟩) r cl, .slice a2 N n2]).heap.size (wr.setRow (w.heap.size + 1) #[.slice (some ⟨bl, ol, none⟩) r cl, .slice a2 N n2]) (.slice a2 N n2) (List.replicate N m.wh) := OwnInts.ints (base := W2.heap.size) (by unfold OwnInts; rw [List.length_replicate]; exact ownsRow.setRow OK.out (by omega) _) (by simp; omega)
            have e1 : sameP m true = List.replicate r m.ph := by unfold sameP; rw [HR.out]; rfl
            have e2 : sameW m true N = List.replicate N m.wh := rfl
            rw [e1, e2]
            exact bodyPost_ret (v := .agg #[.slice (some ⟨bl, ol, none⟩) r cl, .slice a2 N n2]) (results_cell_row (fn := Try.f41) rfl _ _ _ _ _ _ _ rfl (setRow_heap _ _ _ _ _ _ (CF.out.get 1 rfl)) Try.underlying28 rfl info28) rfl ⟨_, _, rfl, I1, I2, below_setRow CF.out.bel (by omega) _⟩

end Go.Proofs.Ytafdagjdpnaddaa
