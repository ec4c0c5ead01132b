/- store.Cheapest. -/
import Derived.Test.YtddapabmfecidaaW23
import Derived.Great.BuildSlice
import Derived.OwnWalk
namespace Go.Proofs.Ytddapabmfecidaa
open Go.RowKit

def zeros61 : List Int := List.replicate 61 0
/-- Into which stores the best way goes. -/
def wayRun (s : Sea) : Nat → Nat → Int → Int → List Int → List Int
  | 0, _, _, _, _ => []
  | r + 1, d, st, h, j => (bestR s (r + 1) d st h j).2 :: wayRun s r (d + 1) (bestR s (r + 1) d st h j).2 (s.hotN (s.at (bestR s (r + 1) d st h j).2.toNat d) h) (s.jumpN (s.at (bestR s (r + 1) d st h j).2.toNat d) j)
theorem wayRun_succ (s : Sea) (r d : Nat) (st h : Int) (j : List Int) : wayRun s (r + 1) d st h j = (bestR s (r + 1) d st h j).2 :: wayRun s r (d + 1) (bestR s (r + 1) d st h j).2 (s.hotN (s.at (bestR s (r + 1) d st h j).2.toNat d) h) (s.jumpN (s.at (bestR s (r + 1) d st h j).2.toNat d) j) := rfl
def cheapV (s : Sea) : List Int × Int × Int :=
  if (checkV s).2.2 = 0 then
    (if (bestR s s.len 0 (-1) 0 zeros61).1 < 0 then ([], 0, 9) else (wayRun s s.len 0 (-1) 0 zeros61, (bestR s s.len 0 (-1) 0 zeros61).1, 0))
  else ([], 0, (checkV s).2.2)

/-- A best plan that is one leads on to one. -/
theorem bestTo_next (s : Sea) (rec : Nat → Int → List Int → Int × Int) (d : Nat) (st h : Int) (j : List Int) : ∀ k, 0 ≤ (bestTo s rec d st h j k).1 →
    ∃ i : Nat, i < k ∧ (bestTo s rec d st h j k).2 = i ∧ s.safe (s.hotN (s.at i d) h) (s.jumpN (s.at i d) j) = true ∧ 0 ≤ (rec i (s.hotN (s.at i d) h) (s.jumpN (s.at i d) j)).1 ∧
      (bestTo s rec d st h j k).1 = (rec i (s.hotN (s.at i d) h) (s.jumpN (s.at i d) j)).1 + s.rent i + s.moveC st i
  | 0, h0 => by simp [bestTo] at h0
  | k + 1, h0 => by
    have ih := bestTo_next s rec d st h j k
    unfold bestTo at h0 ⊢
    unfold bestStep at h0 ⊢
    split at h0
    · rename_i hs
      rw [if_pos hs]
      split at h0
      · rename_i hn
        rw [if_pos hn]
        obtain ⟨i, hi, h1⟩ := ih h0
        exact ⟨i, by omega, h1⟩
      · rename_i hn
        rw [if_neg hn]
        split at h0
        · rename_i hc
          rw [if_pos hc]
          exact ⟨k, by omega, rfl, hs, by omega, rfl⟩
        · rename_i hc
          rw [if_neg hc]
          obtain ⟨i, hi, h1⟩ := ih h0
          exact ⟨i, by omega, h1⟩
    · rename_i hs
      rw [if_neg hs]
      obtain ⟨i, hi, h1⟩ := ih h0
      exact ⟨i, by omega, h1⟩
theorem bestR_next (s : Sea) (r d : Nat) (st h : Int) (j : List Int) (h0 : 0 ≤ (bestR s (r + 1) d st h j).1) :
    ∃ i : Nat, i < s.stores.length ∧ (bestR s (r + 1) d st h j).2 = i ∧ s.safe (s.hotN (s.at i d) h) (s.jumpN (s.at i d) j) = true ∧ 0 ≤ (bestR s r (d + 1) i (s.hotN (s.at i d) h) (s.jumpN (s.at i d) j)).1 ∧
      (bestR s (r + 1) d st h j).1 = (bestR s r (d + 1) i (s.hotN (s.at i d) h) (s.jumpN (s.at i d) j)).1 + s.rent i + s.moveC st i :=
  bestTo_next s (fun i h' j' => bestR s r (d + 1) i h' j') d st h j s.stores.length h0

/-- A slice of so many elements has room for them. -/
theorem ownsRow_ints {w : World} {base : Nat} {v : Value} {l : List Int} (h : w.ownsRow base 3 1 v l.length (l.map (Value.int .i64))) (hl : l.length ≤ 1000) : IntsIn .i64 w.heap.size w v l ∧ ∃ a c, v = .slice a l.length c ∧ l.length ≤ c := by
  obtain ⟨_, h⟩ := h
  rcases h with ⟨rfl, h0⟩ | ⟨g, cap, cur, rfl, hb, hg, hn, hm, hc, ht⟩
  · have : l = [] := List.eq_nil_of_length_eq_zero h0
    subst this
    exact ⟨⟨none, 0, rfl, by simp, .inl rfl⟩, none, 0, rfl, by simp⟩
  · refine ⟨⟨_, cap, rfl, by omega, .inr ⟨g, 0, rfl, block_lt hg, fun i hi => ?_⟩⟩, _, cap, rfl, hn⟩
    rw [cell_of_row w g _ _ _ _ hg, Nat.zero_add]
    have hlt : i < cur.size := by omega
    have e : (cur.toList.take (l.length * 1))[i]? = (l.map (Value.int .i64))[i]? := by rw [ht]
    rw [List.getElem?_take, if_pos (by omega), List.getElem?_map, List.getElem?_eq_getElem hi] at e
    rw [← Array.getElem?_toList, e, List.getD_eq_getElem?_getD, List.getElem?_eq_getElem hi]; rfl

/-- The worlds of Cheapest. -/
structure HC (s : Sea) (w : World) (b5 b6 b7 b8 M : Nat) (S : Array Value) (X : List Int) (wr : World) : Prop where
  rS : wr.heap[b5]? = some (.cells S 75)
  rM : wr.heap[b6]? = some (.cells #[.map (some M)] 107)
  rR : wr.heap[b7]? = some (.cells #[.func (.func 47) #[] #[.pointer (some ⟨b5, 0, none⟩), .pointer (some ⟨b6, 0, none⟩), .pointer (some ⟨b7, 0, none⟩)]] 108)
  rX : wr.heap[b8]? = some (.cells (ints X) 99)
  bel : Below w.heap.size w wr
  hM : w.heap.size ≤ M ∧ M < wr.heap.size
  ne : b5 ≠ M ∧ b6 ≠ M ∧ b7 ≠ M ∧ b8 ≠ M ∧ b5 ≠ b8 ∧ b6 ≠ b8 ∧ b7 ≠ b8
  ge : w.heap.size ≤ b8
theorem HC.keeps {s : Sea} {w : World} {b5 b6 b7 b8 M : Nat} {S : Array Value} {X : List Int} {wr wr' : World} (h : HC s w b5 b6 b7 b8 M S X wr) (k : Keeps wr wr' M) : HC s w b5 b6 b7 b8 M S X wr' :=
  { h with rS := k.row h.rS h.ne.1, rM := k.row h.rM h.ne.2.1, rR := k.row h.rR h.ne.2.2.1, rX := k.row h.rX h.ne.2.2.2.1, bel := h.bel.trans (k.toBelow h.hM.1 h.bel.size), hM := ⟨h.hM.1, Nat.lt_of_lt_of_le h.hM.2 k.size⟩ }
theorem HC.below {s : Sea} {w : World} {b5 b6 b7 b8 M : Nat} {S : Array Value} {X : List Int} {wr wr' : World} (h : HC s w b5 b6 b7 b8 M S X wr) (k : Below wr.heap.size wr wr') : HC s w b5 b6 b7 b8 M S X wr' := h.keeps ((Keeps.refl wr M).below k)
theorem HC.setX {s : Sea} {w : World} {b5 b6 b7 b8 M : Nat} {S : Array Value} {X Y : List Int} {wr : World} (h : HC s w b5 b6 b7 b8 M S X wr) : HC s w b5 b6 b7 b8 M S Y (wr.setRow b8 (ints Y)) :=
  { h with rS := (setRow_other wr _ _ _ h.ne.2.2.2.2.1).trans h.rS, rM := (setRow_other wr _ _ _ h.ne.2.2.2.2.2.1).trans h.rM, rR := (setRow_other wr _ _ _ h.ne.2.2.2.2.2.2).trans h.rR, rX := setRow_heap _ _ _ _ _ _ h.rX, bel := below_setRow h.bel h.ge _, hM := ⟨h.hM.1, by simpa using h.hM.2⟩ }

set_option maxRecDepth 100000 in
set_option maxHeartbeats 4000000 in
theorem cheap_bad (s : Sea) (vs : Value) (w : World) (hv : StosIn w.heap.size w vs s.stores) (e : Int) (he : (checkV s).2.2 = e) (hz : e ≠ 0) :
    Calls Try.prog 26 #[.agg #[.int .i64 s.bend, .int .i64 s.days, .int .i64 s.jump, .int .i64 s.times, .int .i64 s.move, vs]] w
      fun e' w' => e' = .returned (.tuple #[.slice none 0 0, .int .i64 0, .int .i64 e]) ∧ Below w.heap.size w w' := by
  have HV := Lib.hid hv
  obtain ⟨a, c, rfl, hll, hlc, hvv⟩ := hv
  have C0 : Hid (Below w.heap.size w (w.alloc (.cells #[.int .i64 s.bend, .int .i64 s.days, .int .i64 s.jump, .int .i64 s.times, .int .i64 s.move, .slice a s.stores.length c] 31))) := (Below.refl _ _).alloc (Nat.le_refl _) _
  clear hvv
  have HE := Lib.hid he
  clear he
  have hzz : (e != 0) = true := by simpa using hz
  clear hz
  go_enter Try.func26, Try.ntmps26
  go_wp2_with fail
  refine (checkS_any s _ _ ((HV.out.below C0.out).mono C0.out.size)).mono ?_
  rintro e' w1 ⟨rfl, hbw⟩
  have C1 := Lib.hid (C0.out.trans (hbw.mono C0.out.size))
  clear hbw
  rw [HE.out]
  go_wp2_with fail
  go_ret3
  exact ⟨rfl, C1.out⟩

/-- What Cheapest hands back. -/
def CheapPost (s : Sea) (w : World) (e : Ending) (w' : World) : Prop :=
  ∃ v, e = .returned (.tuple #[v, .int .i64 (cheapV s).2.1, .int .i64 (cheapV s).2.2]) ∧ IntsIn .i64 w'.heap.size w' v (cheapV s).1 ∧ (∃ a c, v = .slice a (cheapV s).1.length c ∧ (cheapV s).1.length ≤ c) ∧ Below w.heap.size w w'
theorem info108 : (Try.prog.info? 108).map (·.size) = some 1 := by kernel_rfl
theorem fld0 (p q : Int) (w : World) : (Instr.field 110 (.agg #[.int .i64 p, .int .i64 q]) 0).run Try.prog w = .ok (.int .i64 p) w := by kernel_rfl
theorem fld1 (p q : Int) (w : World) : (Instr.field 110 (.agg #[.int .i64 p, .int .i64 q]) 1).run Try.prog w = .ok (.int .i64 q) w := by kernel_rfl
theorem i64info : ∃ i, Try.prog.info? 3 = some i ∧ i.zero = some (.int .i64 0) ∧ i.size = 1 ∧ i.bytes = 8 := by
  obtain ⟨i, h1, h2⟩ := Option.map_eq_some_iff.1 (show (Try.prog.info? 3).map (fun i => (i.zero, i.size, i.bytes)) = some (some (.int .i64 0), 1, 8) by kernel_rfl)
  simp only [Prod.mk.injEq] at h2
  exact ⟨i, h1, h2⟩
theorem noteN_small : ∀ r, r ≤ 8 → noteN r ≤ 10000 := by
  intro r h
  rcases r with _ | _ | _ | _ | _ | _ | _ | _ | _ | q <;> first | decide | omega
def lenOf : Value → Nat
  | .slice _ n _ => n
  | _ => 0
theorem ownsRow_lenOf {w : World} {base : Nat} {v : Value} {n sz : Nat} {e : TypeId} {xs : List Value} (h : w.ownsRow base e sz v n xs) : lenOf v = n := by
  rcases h.2 with ⟨rfl, h0⟩ | ⟨g, cap, cur, rfl, _⟩
  · rw [h0]; rfl
  · rfl
theorem ownsRow_slice {w : World} {base : Nat} {v : Value} {n sz : Nat} {e : TypeId} {xs : List Value} (h : w.ownsRow base e sz v n xs) : ∃ a c, v = .slice a n c := by
  rcases h.2 with ⟨rfl, h0⟩ | ⟨g, cap, cur, rfl, _⟩
  · exact ⟨none, 0, by rw [h0]⟩
  · exact ⟨_, _, rfl⟩
theorem ownsRow.below {w w' : World} {base : Nat} {v : Value} {n sz : Nat} {e : TypeId} {xs : List Value} (h : w.ownsRow base e sz v n xs) (hb : Below w.heap.size w w') : w'.ownsRow base e sz v n xs := by
  refine ⟨h.1, ?_⟩
  rcases h.2 with h0 | ⟨g, cap, cur, rfl, h1, h2, h3⟩
  · exact .inl h0
  · exact .inr ⟨g, cap, cur, rfl, h1, block_keep h2 hb, h3⟩
theorem ownsRow.keeps {w w' : World} {base X : Nat} {v : Value} {n sz : Nat} {e : TypeId} {xs : List Value} (h : w.ownsRow base e sz v n xs) (hb : Keeps w w' X) (hX : X < base) : w'.ownsRow base e sz v n xs := by
  refine ⟨h.1, ?_⟩
  rcases h.2 with h0 | ⟨g, cap, cur, rfl, h1, h2, h3⟩
  · exact .inl h0
  · exact .inr ⟨g, cap, cur, rfl, h1, hb.row h2 (by omega), h3⟩
theorem ownsRow.setRow {w : World} {base X : Nat} {v : Value} {n sz : Nat} {e : TypeId} {xs : List Value} (h : w.ownsRow base e sz v n xs) (hX : X < base) (cs : Array Value) : (w.setRow X cs).ownsRow base e sz v n xs := by
  refine ⟨h.1, ?_⟩
  rcases h.2 with h0 | ⟨g, cap, cur, rfl, h1, h2, h3⟩
  · exact .inl h0
  · exact .inr ⟨g, cap, cur, rfl, h1, (setRow_other _ _ _ _ (by omega)).trans h2, h3⟩
/-- Everything below the base is as it was. -/
theorem grown_keeps {w w' : World} {v : Value} (hg : w.grownBy w' v.ownBlock) {X : Nat} {o : Obj} (h : w.heap[X]? = some o) (hne : ∀ k, v.ownBlock = some k → X ≠ k) : w'.heap[X]? = some o :=
  (hg.block X (block_lt h) (fun e => hne X e.symm rfl)).trans h

theorem HC.grown {s : Sea} {w : World} {b5 b6 b7 b8 M base : Nat} {S : Array Value} {X : List Int} {wr wr' : World} {v : Value} (h : HC s w b5 b6 b7 b8 M S X wr) (hg : wr.grownBy wr' v.ownBlock) (hlt : ∀ k, v.ownBlock = some k → base ≤ k) (hb : b5 < base ∧ b6 < base ∧ b7 < base ∧ b8 < base ∧ M < base ∧ w.heap.size ≤ base) : HC s w b5 b6 b7 b8 M S X wr' :=
  have k : ∀ {b : Nat} {o : Obj}, b < base → wr.heap[b]? = some o → wr'.heap[b]? = some o := fun hbb hx => grown_keeps hg hx (fun k e => by have := hlt k e; omega)
  { h with rS := k hb.1 h.rS, rM := k hb.2.1 h.rM, rR := k hb.2.2.1 h.rR, rX := k hb.2.2.2.1 h.rX, bel := h.bel.grown hg h.bel.size (fun k e => Nat.le_trans hb.2.2.2.2.2 (hlt k e)), hM := ⟨h.hM.1, Nat.lt_of_lt_of_le h.hM.2 hg.size⟩ }
theorem Memo.grown {s : Sea} {M n base : Nat} {w w' : World} {v : Value} (h : Memo s M n w) (hg : w.grownBy w' v.ownBlock) (hlt : ∀ k, v.ownBlock = some k → base ≤ k) (hb : M < base) : Memo s M n w' := by
  obtain ⟨es, clock, h1, h2⟩ := h
  exact ⟨es, clock, grown_keeps hg h1 (fun k e => by have := hlt k e; omega), h2⟩

set_option maxRecDepth 100000 in
set_option maxHeartbeats 4000000 in
theorem cheap_good (s : Sea) (vs : Value) (w : World) (hv : StosIn w.heap.size w vs s.stores) (he : (checkV s).2.2 = 0) :
    Calls Try.prog 26 #[.agg #[.int .i64 s.bend, .int .i64 s.days, .int .i64 s.jump, .int .i64 s.times, .int .i64 s.move, vs]] w (CheapPost s w) := by
  have HV := Lib.hid hv
  obtain ⟨a, c, rfl, hll, hlc, hvv⟩ := hv
  have C0 : Hid (Below w.heap.size w (w.alloc (.cells #[.int .i64 s.bend, .int .i64 s.days, .int .i64 s.jump, .int .i64 s.times, .int .i64 s.move, .slice a s.stores.length c] 31))) := (Below.refl _ _).alloc (Nat.le_refl _) _
  have R0 : Hid ((w.alloc (.cells #[.int .i64 s.bend, .int .i64 s.days, .int .i64 s.jump, .int .i64 s.times, .int .i64 s.move, .slice a s.stores.length c] 31)).heap[w.heap.size]? = some (.cells #[.int .i64 s.bend, .int .i64 s.days, .int .i64 s.jump, .int .i64 s.times, .int .i64 s.move, .slice a s.stores.length c] 31)) := heap_alloc_new _ _
  clear hvv
  have HE := Lib.hid he
  have HG := Lib.hid (good_of_ok he)
  clear he
  have HL1 : Hid (0 < s.stores.length) := by have := HG.out.stores; unfold Hid; omega
  have hmm := @run_makeMap Try.prog
  go_enter Try.func26, Try.ntmps26
  go_wp2_with fail
  refine (checkS_any s _ _ ((HV.out.below C0.out).mono C0.out.size)).mono ?_
  rintro e' w1 ⟨rfl, hbw⟩
  have C1 := Lib.hid (C0.out.trans (hbw.mono C0.out.size))
  have R1 := Lib.hid (block_keep R0.out hbw)
  clear hbw C0 R0
  rw [HE.out]
  have c1 := fun i => cell_of_row w1 _ i _ _ _ R1.out
  have R7 : Hid (((((w1.alloc (.cells #[.int .i64 s.bend, .int .i64 s.days, .int .i64 s.jump, .int .i64 s.times, .int .i64 s.move, .slice a s.stores.length c] 75)).alloc (.map #[] 0)).alloc (.cells #[.map (some (w1.heap.size + 1))] 107)).alloc (.cells #[.nilFunc] 108)).heap[w1.heap.size + 1 + 1 + 1]? = some (.cells #[.nilFunc] 108)) := by
    have := heap_alloc_new (((w1.alloc (.cells #[.int .i64 s.bend, .int .i64 s.days, .int .i64 s.jump, .int .i64 s.times, .int .i64 s.move, .slice a s.stores.length c] 75)).alloc (.map #[] 0)).alloc (.cells #[.map (some (w1.heap.size + 1))] 107)) (.cells #[.nilFunc] 108)
    simp only [World.size_alloc] at this
    exact this
  go_upto_region 8 with (refine wpList_store_one rfl 108 _ _ rfl _ rfl rfl _ _ R7.out info108 ?_)
  refine wp_world (fun wz => wz.heap[w1.heap.size]? = some (.cells #[.int .i64 s.bend, .int .i64 s.days, .int .i64 s.jump, .int .i64 s.times, .int .i64 s.move, .slice a s.stores.length c] 75) ∧ wz.heap[w1.heap.size + 1 + 1]? = some (.cells #[.map (some (w1.heap.size + 1))] 107) ∧ wz.heap[w1.heap.size + 1 + 1 + 1]? = some (.cells #[.func (.func 47) #[] #[.pointer (some ⟨w1.heap.size, 0, none⟩), .pointer (some ⟨w1.heap.size + 1 + 1, 0, none⟩), .pointer (some ⟨w1.heap.size + 1 + 1 + 1, 0, none⟩)]] 108) ∧ Memo s (w1.heap.size + 1) 0 wz ∧ Below w.heap.size w wz) ?_ ?_
  · have hbA : Below w1.heap.size w1 (w1.alloc (.cells #[.int .i64 s.bend, .int .i64 s.days, .int .i64 s.jump, .int .i64 s.times, .int .i64 s.move, .slice a s.stores.length c] 75)) := (Below.refl _ _).alloc (Nat.le_refl _) _
    have hm0 := Memo.start s (w1.alloc (.cells #[.int .i64 s.bend, .int .i64 s.days, .int .i64 s.jump, .int .i64 s.times, .int .i64 s.move, .slice a s.stores.length c] 75))
    simp only [World.size_alloc] at hm0
    have hb2 : Below (w1.heap.size + 1 + 1) ((w1.alloc (.cells #[.int .i64 s.bend, .int .i64 s.days, .int .i64 s.jump, .int .i64 s.times, .int .i64 s.move, .slice a s.stores.length c] 75)).alloc (.map #[] 0)) (((((w1.alloc (.cells #[.int .i64 s.bend, .int .i64 s.days, .int .i64 s.jump, .int .i64 s.times, .int .i64 s.move, .slice a s.stores.length c] 75)).alloc (.map #[] 0)).alloc (.cells #[.map (some (w1.heap.size + 1))] 107)).alloc (.cells #[.nilFunc] 108))) := ((Below.refl _ _).alloc (by simp only [World.size_alloc]; omega) _).alloc (by simp only [World.size_alloc]; omega) _
    have e2 : ((w1.alloc (.cells #[.int .i64 s.bend, .int .i64 s.days, .int .i64 s.jump, .int .i64 s.times, .int .i64 s.move, .slice a s.stores.length c] 75)).alloc (.map #[] 0)).heap.size = w1.heap.size + 1 + 1 := by simp only [World.size_alloc]
    have hm1 := hm0.below (w' := ((((w1.alloc (.cells #[.int .i64 s.bend, .int .i64 s.days, .int .i64 s.jump, .int .i64 s.times, .int .i64 s.move, .slice a s.stores.length c] 75)).alloc (.map #[] 0)).alloc (.cells #[.map (some (w1.heap.size + 1))] 107)).alloc (.cells #[.nilFunc] 108))) (by rw [e2]; exact hb2)
    have hall : Below w1.heap.size w1 (((((w1.alloc (.cells #[.int .i64 s.bend, .int .i64 s.days, .int .i64 s.jump, .int .i64 s.times, .int .i64 s.move, .slice a s.stores.length c] 75)).alloc (.map #[] 0)).alloc (.cells #[.map (some (w1.heap.size + 1))] 107)).alloc (.cells #[.nilFunc] 108))) := (((hbA).alloc (by simp) _).alloc (by simp; omega) _).alloc (by simp; omega) _
    have h2 : (((((w1.alloc (.cells #[.int .i64 s.bend, .int .i64 s.days, .int .i64 s.jump, .int .i64 s.times, .int .i64 s.move, .slice a s.stores.length c] 75)).alloc (.map #[] 0)).alloc (.cells #[.map (some (w1.heap.size + 1))] 107)).alloc (.cells #[.nilFunc] 108))).heap[w1.heap.size + 1 + 1]? = some (.cells #[.map (some (w1.heap.size + 1))] 107) := by
      refine (Below.heap_alloc _ _ _ (by simp only [World.size_alloc]; omega)).trans ?_
      have := heap_alloc_new ((w1.alloc (.cells #[.int .i64 s.bend, .int .i64 s.days, .int .i64 s.jump, .int .i64 s.times, .int .i64 s.move, .slice a s.stores.length c] 75)).alloc (.map #[] 0)) (.cells #[.map (some (w1.heap.size + 1))] 107)
      rw [e2] at this; exact this
    have h0 : (((((w1.alloc (.cells #[.int .i64 s.bend, .int .i64 s.days, .int .i64 s.jump, .int .i64 s.times, .int .i64 s.move, .slice a s.stores.length c] 75)).alloc (.map #[] 0)).alloc (.cells #[.map (some (w1.heap.size + 1))] 107)).alloc (.cells #[.nilFunc] 108))).heap[w1.heap.size]? = some (.cells #[.int .i64 s.bend, .int .i64 s.days, .int .i64 s.jump, .int .i64 s.times, .int .i64 s.move, .slice a s.stores.length c] 75) :=
      (Below.heap_alloc _ _ _ (by simp only [World.size_alloc]; omega)).trans ((Below.heap_alloc _ _ _ (by simp only [World.size_alloc]; omega)).trans ((Below.heap_alloc _ _ _ (by simp only [World.size_alloc]; omega)).trans (heap_alloc_new _ _)))
    exact ⟨(setRow_other _ _ _ _ (by omega)).trans h0, (setRow_other _ _ _ _ (by omega)).trans h2, setRow_heap _ _ _ _ _ _ R7.out, hm1.setRow _ (by omega) _, below_setRow (C1.out.trans (hall.mono C1.out.size)) (by have := C1.out.size; omega) _⟩
  rintro wz ⟨hS, hM, hR, hmm, hbel⟩
  have HS := Lib.hid hS
  have HM := Lib.hid hM
  have HR := Lib.hid hR
  have HMM := Lib.hid hmm
  have HB := Lib.hid hbel
  clear hS hM hR hmm hbel c1
  go_wp2_with fail
  refine (begin_any 0 (by omega) wz).mono ?_
  rintro e w2 ⟨rfl, hbw⟩
  have HS2 := Lib.hid (block_keep HS.out hbw)
  have HM2 := Lib.hid (block_keep HM.out hbw)
  have HR2 := Lib.hid (block_keep HR.out hbw)
  have HMM2 := Lib.hid (HMM.out.below hbw)
  have HB2 := Lib.hid (HB.out.trans (hbw.mono HB.out.size))
  clear hbw HS HM HR HMM HB
  rw [show ((0 : Int) - 1) = -1 from rfl]
  go_upto_region 9 with (refine wpList_store_row rfl 99 _ _ rfl _ (ints ((-1) :: (-1) :: 0 :: List.replicate 61 0)) rfl rfl _ _ (heap_alloc_new _ _) (by rw [ints_size]; exact info99) (by simp [ints_size]) (ints_oneCell _) ?_)
  have hw1 : w.heap.size ≤ w1.heap.size := C1.out.size
  have hsz2 : w1.heap.size + 1 + 1 + 1 < w2.heap.size := block_lt HR2.out
  refine wp_world (fun wr => HC s w w1.heap.size (w1.heap.size + 1 + 1) (w1.heap.size + 1 + 1 + 1) w2.heap.size (w1.heap.size + 1) #[.int .i64 s.bend, .int .i64 s.days, .int .i64 s.jump, .int .i64 s.times, .int .i64 s.move, .slice a s.stores.length c] ((-1) :: (-1) :: 0 :: zeros61) wr ∧ Memo s (w1.heap.size + 1) 0 wr) ?_ ?_
  · have hbz : Below w2.heap.size w2 ((w2.alloc (.cells (ints (List.replicate 64 0)) 99)).setRow w2.heap.size (ints ((-1) :: (-1) :: 0 :: zeros61))) := below_setRow ((Below.refl _ _).alloc (Nat.le_refl _) _) (Nat.le_refl _) _
    exact ⟨⟨block_keep HS2.out hbz, block_keep HM2.out hbz, block_keep HR2.out hbz, setRow_heap _ _ _ _ _ _ (heap_alloc_new _ _), HB2.out.trans (hbz.mono HB2.out.size), ⟨by omega, Nat.lt_of_lt_of_le (by omega) hbz.size⟩, ⟨by omega, by omega, by omega, by omega, by omega, by omega, by omega⟩, by omega⟩, HMM2.out.below hbz⟩
  rintro w3 ⟨hH3, hM3⟩
  have HH3 := Lib.hid hH3
  have HM3 := Lib.hid hM3
  clear hH3 hM3 HS2 HM2 HR2 HMM2 HB2
  have hlen := HG.out.len
  have HNL : Hid (noteN s.len ≤ 100000) := by
    have h1 := hlen.2
    generalize s.len = q at h1
    unfold Hid
    rcases q with _ | _ | _ | _ | _ | _ | _ | _ | _ | q <;> first | decide | omega
  have hr0 := rest_any s HG.out (.slice a s.stores.length c) w.heap.size w1.heap.size (w1.heap.size + 1 + 1) (w1.heap.size + 1 + 1 + 1) (w1.heap.size + 1) (by omega) (by omega) (by omega) (by omega) s.len 0 (by omega) 0 w3 (-1) (-1) 0 zeros61 HH3.out.rS HH3.out.rM HH3.out.rR (HV.out.below HH3.out.bel) HH3.out.hM.2 HM3.out (by have := HNL.out; omega) rfl (by omega) (by omega) (by simp [zeros61]) small_zero (by omega) (by omega)
  have HRST := Lib.hid hr0
  clear hr0
  obtain ⟨p, hp⟩ : ∃ p, bestR s s.len 0 (-1) 0 zeros61 = p := ⟨_, rfl⟩
  have HP := Lib.hid hp
  clear hp
  have cR := cell_of_row w3 _ 0 _ _ _ HH3.out.rR
  go_wp2_with (refine wpList_load_row rfl 99 _ rfl _ rfl _ _ _ _ HH3.out.rX Try.underlying99 rfl (by rw [ints_size]; simp only [List.length_cons, zeros61, List.length_replicate]; exact info99) ?_)
  clear cR
  refine HRST.out.mono ?_
  rintro e w4 ⟨he, hm4, hk4⟩
  rw [HP.out] at he
  unfold planV at he
  subst he
  have HH4 := Lib.hid (HH3.out.keeps hk4)
  have HM4 := Lib.hid hm4
  clear hm4 hk4 HRST HH3 HM3
  obtain ⟨p1, p2⟩ := p
  have hf0 := fld0 p1 p2 w4
  by_cases hneg : p1 < 0
  · have HCV : Hid (cheapV s = ([], 0, 9)) := by unfold Hid cheapV; rw [if_pos HE.out, HP.out, if_pos hneg]
    go_wp2_with fail
    go_ret3
    exact ⟨.slice none 0 0, by rw [HCV.out]; rfl, by rw [HCV.out]; exact ⟨none, 0, rfl, by simp, .inl rfl⟩, by rw [HCV.out]; exact ⟨none, 0, rfl, by simp⟩, HH4.out.bel⟩
  · have hge : 0 ≤ p1 := by omega
    go_wp2_with fail
    go_loopw [2] (fun v wr => ∃ (m : Nat) (st h : Int) (j : List Int) (n' : Nat) (l : List Int), HC s w w1.heap.size (w1.heap.size + 1 + 1) (w1.heap.size + 1 + 1 + 1) w2.heap.size (w1.heap.size + 1) #[.int .i64 s.bend, .int .i64 s.days, .int .i64 s.jump, .int .i64 s.times, .int .i64 s.move, .slice a s.stores.length c] (((m : Int) - 1) :: st :: h :: j) wr ∧ Memo s (w1.heap.size + 1) n' wr ∧ n' ≤ 10000 * (m + 1) ∧ wr.ownsRow (w2.heap.size + 1) 3 1 v l.length (l.map (Value.int .i64)) ∧ l.length = m ∧ m ≤ s.len ∧ wayRun s s.len 0 (-1) 0 zeros61 = l ++ wayRun s (s.len - m) m st h j ∧ 0 ≤ (bestR s (s.len - m) m st h j).1 ∧ j.length = 61 ∧ Small (m : Int) j ∧ 0 ≤ h ∧ h ≤ m ∧ -1 ≤ st ∧ st ≤ 3) (fun v _ => s.len - lenOf v)
    case atStart => exact ⟨0, -1, 0, zeros61, _, [], HH4.out, HM4.out, by have := noteN_small s.len hlen.2; omega, World.ownsRow_nil _ _ _ _, rfl, by omega, by simp, by rw [show s.len - 0 = s.len by omega, HP.out]; exact hge, by simp [zeros61], small_zero, by omega, by omega, by omega, by omega⟩
    case round =>
      obtain ⟨m, st, h, j, n', l, hH, hM, hn', hO, hl, hm, hway, hb0, hj, hjs, hh0, hh1, hst0, hst1⟩ := hrel
      have HH := Lib.hid hH
      have HM := Lib.hid hM
      have HO := Lib.hid hO
      have HLL := Lib.hid hl
      have HWAY := Lib.hid hway
      have HB0 := Lib.hid hb0
      have HJ := Lib.hid hj
      have HJS := Lib.hid hjs
      obtain ⟨av, cv, hvs⟩ := ownsRow_slice hO
      subst hvs
      clear hH hM hO hway hb0 hj hjs
      rw [hl] at HO ⊢
      clear hl
      by_cases hlt : m < s.len
      · go_wp2_with fail
        refine wp_region_inv0 (by kernel_rfl) (by kernel_rfl) (fun _ w' => HC s w w1.heap.size (w1.heap.size + 1 + 1) (w1.heap.size + 1 + 1 + 1) w2.heap.size (w1.heap.size + 1) #[.int .i64 s.bend, .int .i64 s.days, .int .i64 s.jump, .int .i64 s.times, .int .i64 s.move, .slice a s.stores.length c] (((m : Int) - 1) :: st :: h :: j) w' ∧ Memo s (w1.heap.size + 1) n' w' ∧ w'.ownsRow (w2.heap.size + 1) 3 1 (.slice av m cv) m (l.map (Value.int .i64))) ⟨HH.out.below (Below.refl _ wr).drew, HM.out.below (Below.refl _ wr).drew, ownsRow.below HO.out (Below.refl _ wr).drew⟩ ?_
        apply obl_det
        case hrun =>
          intro D y wz hW hD R hR
          have HRR := Lib.hid hR
          clear hR hD
          have HW := Lib.hid hW
          clear hW
          go_wp2
          exact HRR.out _ HW.out
        case hnp => rfl
        case hv => first | exact ⟨_, fun _ => rfl⟩ | exact ⟨undef, fun _ => rfl⟩
        apply obl_det
        case hrun =>
          intro D y wz hW hD R hR
          have HRR := Lib.hid hR
          clear hR hD
          have HW := Lib.hid hW
          have cx := fun i => cell_of_row wz _ i _ _ _ hW.1.rX
          clear hW
          go_wp2
          exact HRR.out _ HW.out
        case hnp => rfl
        case hv => first | exact ⟨_, fun _ => rfl⟩ | exact ⟨undef, fun _ => rfl⟩
        apply obl_det
        case hrun =>
          intro D y wz hW hD R hR
          have HRR := Lib.hid hR
          clear hR hD
          have HW := Lib.hid hW
          have cs := fun i => cell_of_row wz _ i _ _ _ hW.1.rS
          clear hW
          go_wp2
          exact HRR.out _ HW.out
        case hnp => rfl
        case hv => first | exact ⟨_, fun _ => rfl⟩ | exact ⟨undef, fun _ => rfl⟩
        apply obl_det
        case hrun =>
          intro D y wz hW hD R hR
          have HRR := Lib.hid hR
          have HW := Lib.hid hW
          clear hR hD hW
          go_wp2_with (go_at_call 40; refine (seaDays_any s _ _ ((HV.out.below HW.out.1.bel).mono HW.out.1.bel.size) HL1.out).mono ?_; rintro e w' ⟨rfl, hbw⟩)
          exact HRR.out _ ⟨HW.out.1.below hbw, HW.out.2.1.below hbw, ownsRow.below HW.out.2.2 hbw⟩
        case hnp => rfl
        case hv => first | exact ⟨_, fun _ => rfl⟩ | exact ⟨undef, fun _ => rfl⟩
        apply obl_det
        case hrun =>
          intro D y wz hW hD R hR
          have HRR := Lib.hid hR
          clear hR hD
          have HW := Lib.hid hW
          clear hW
          go_wp2
          exact HRR.out _ HW.out
        case hnp => rfl
        case hv => first | exact ⟨_, fun _ => rfl⟩ | exact ⟨undef, fun _ => rfl⟩
        apply obl_det
        case hrun =>
          intro D y wz hW hD R hR
          have HRR := Lib.hid hR
          clear hR hD
          have HW := Lib.hid hW
          clear hW
          go_wp2
          exact HRR.out _ HW.out
        case hnp => rfl
        case hv => first | exact ⟨_, fun _ => rfl⟩ | exact ⟨undef, fun _ => rfl⟩
        apply obl_nil
        intro D y w8 hall hW
        have HW8 := Lib.hid hW
        clear hW hall
        simp only [Exit.then]
        have hr8 : s.len - m ≤ 8 := by omega
        have hns := noteN_small (s.len - m) hr8
        have hr0 := rest_any s HG.out (.slice a s.stores.length c) w.heap.size w1.heap.size (w1.heap.size + 1 + 1) (w1.heap.size + 1 + 1 + 1) (w1.heap.size + 1) (by omega) (by omega) (by omega) (by omega) (s.len - m) m (by omega) n' w8 ((m : Int) - 1) st h j HW8.out.1.rS HW8.out.1.rM HW8.out.1.rR (HV.out.below HW8.out.1.bel) HW8.out.1.hM.2 HW8.out.2.1 (by omega) rfl hst0 hst1 HJ.out HJS.out hh0 hh1
        have HRST := Lib.hid hr0
        clear hr0
        have hnx := bestR_next s (s.len - m - 1) m st h j (by rw [show s.len - m - 1 + 1 = s.len - m by omega]; exact HB0.out)
        rw [show s.len - m - 1 + 1 = s.len - m by omega] at hnx
        obtain ⟨i, hi, hi2, hsafe, hpos, -⟩ := hnx
        have HSF := Lib.hid hsafe
        have HPOS := Lib.hid hpos
        have HWR : Hid (wayRun s (s.len - m) m st h j = (i : Int) :: wayRun s (s.len - m - 1) (m + 1) i (s.hotN (s.at i m) h) (s.jumpN (s.at i m) j)) := by
          have := wayRun_succ s (s.len - m - 1) m st h j
          rw [show s.len - m - 1 + 1 = s.len - m by omega, hi2, Int.toNat_natCast] at this
          exact this
        obtain ⟨q1, hq1⟩ : ∃ q1, (bestR s (s.len - m) m st h j).1 = q1 := ⟨_, rfl⟩
        have HP2 : Hid (planV (bestR s (s.len - m) m st h j) = .agg #[.int .i64 q1, .int .i64 (i : Int)]) := by unfold Hid planV; rw [hq1, hi2]
        clear hsafe hpos hi2 hq1 hns
        have cR := cell_of_row w8 _ 0 _ _ _ HW8.out.1.rR
        go_wp2_with (refine wpList_load_row rfl 99 _ rfl _ rfl _ _ _ _ HW8.out.1.rX Try.underlying99 rfl (by rw [ints_size]; simp only [List.length_cons, HJ.out]; exact info99) ?_)
        clear cR
        refine HRST.out.mono ?_
        rintro e w9 ⟨he, hm9, hk9⟩
        rw [HP2.out] at he
        subst he
        have HH9 := Lib.hid (HW8.out.1.keeps hk9)
        have HM9 := Lib.hid hm9
        have HO9 := Lib.hid (ownsRow.keeps HW8.out.2.2 hk9 (by omega))
        clear hm9 hk9 HRST
        have hf1 := fld1 q1 (i : Int) w9
        have cs := fun i => cell_of_row w9 _ i _ _ _ HH9.out.rS
        go_wp2_with (refine wpList_load_row rfl 99 _ rfl _ rfl _ _ _ _ HH9.out.rX Try.underlying99 rfl (by rw [ints_size]; simp only [List.length_cons, HJ.out]; exact info99) ?_)
        clear cs hf1
        refine (after_good s HG.out (.slice a s.stores.length c) m st h j i w9 ((HV.out.below HH9.out.bel).mono HH9.out.bel.size) hi hlt HJ.out (fun k => ⟨(HJS.out k).1, by have := (HJS.out k).2; omega⟩) hh0 (by omega) true HSF.out).mono ?_
        rintro e w10 ⟨rfl, hbw⟩
        have HH10 := Lib.hid (HH9.out.below hbw)
        have HM10 := Lib.hid (HM9.out.below hbw)
        have HO10 := Lib.hid (ownsRow.below HO9.out hbw)
        have hhb := s.hotN_bound (s.at i m) h m hh0 hh1
        have HJL := Lib.hid (s.jumpN_len (s.at i m) j)
        have HJN : Hid (Small ((m + 1 : Nat) : Int) (s.jumpN (s.at i m) j)) := nextTo_small HJS.out (by omega) _ _ _
        clear hbw
        generalize hh' : s.hotN (s.at i m) h = h' at *
        generalize hj' : s.jumpN (s.at i m) j = j' at *
        clear hh' hj'
        go_upto_region 15 with (refine wpList_store_row rfl 99 _ _ rfl _ (ints ((m : Int) :: (i : Int) :: h' :: j')) rfl rfl _ _ HH10.out.rX (by rw [ints_size]; simp only [List.length_cons, HJL.out]; exact info99) (by simp [ints_size, HJ.out, HJL.out]) (ints_oneCell _) ?_)
        have HH11 := Lib.hid (HH10.out.setX (Y := (m : Int) :: (i : Int) :: h' :: j'))
        have HM11 := Lib.hid (HM10.out.setRow w2.heap.size (by omega) (ints ((m : Int) :: (i : Int) :: h' :: j')))
        have HO11 := Lib.hid (ownsRow.setRow HO10.out (show w2.heap.size < w2.heap.size + 1 by omega) (ints ((m : Int) :: (i : Int) :: h' :: j')))
        generalize w10.setRow w2.heap.size (ints ((m : Int) :: (i : Int) :: h' :: j')) = w11 at HH11 HM11 HO11 ⊢
        obtain ⟨i0, hi0, hz0, hz1, hz2⟩ := i64info
        have hml : m < 8 := by omega
        have hw2l : w2.heap.size < w11.heap.size := block_lt HH11.out.rX
        go_wp2_with (at_builtin; refine wpList_append_own _ rfl _ _ 33 rfl (w2.heap.size + 1) 3 i0 (.int .i64 0) 1 8 Try.underlying33 hi0 hz0 hz1 hz2 rfl (by decide) _ _ _ rfl (HO11.out.alloc _) ⟨w11.heap.size, 0, none⟩ 1 1 [.int .i64 (i : Int)] rfl rfl (cell_one_new _ _ _) (fun x hx => by simp at hx; subst hx; rfl) (by unfold maxLen; omega) (by omega) (by simp; omega) ?_; intro v' w12 hown12 hgrow12 _)
        have hbx := (Below.refl w11.heap.size w11).alloc (Nat.le_refl _) (.cells #[.int .i64 (i : Int)] 3)
        have hlt12 := (World.ownsRow.lt HO11.out)
        have HH12 := Lib.hid ((HH11.out.below hbx).grown (base := w2.heap.size + 1) hgrow12 (fun k e => (hlt12 k e).1) ⟨by omega, by omega, by omega, by omega, by omega, by omega⟩)
        have HM12 := Lib.hid ((HM11.out.below hbx).grown (base := w2.heap.size + 1) hgrow12 (fun k e => (hlt12 k e).1) (by omega))
        have hll := HLL.out
        have HO12 : Hid (w12.ownsRow (w2.heap.size + 1) 3 1 v' (l ++ [(i : Int)]).length ((l ++ [(i : Int)]).map (Value.int .i64))) := by
          unfold Hid
          rw [show (l ++ [(i : Int)]).length = m + 1 by simp [hll], List.map_append]
          exact hown12
        have hln := ownsRow_lenOf hown12
        have hns := noteN_small (s.len - m) hr8
        go_roundw
        case rel => exact ⟨m + 1, i, h', j', n' + noteN (s.len - m), l ++ [(i : Int)], by rw [show (((m + 1 : Nat) : Int) - 1) = (m : Int) by omega]; exact HH12.out, HM12.out, by omega, HO12.out, by simp [hll], by omega, by rw [HWAY.out, HWR.out, List.append_assoc, show s.len - m - 1 = s.len - (m + 1) by omega]; rfl, by rw [show s.len - (m + 1) = s.len - m - 1 by omega]; exact HPOS.out, HJL.out, HJN.out, hhb.1, by have := hhb.2; omega, by omega, by have := HG.out.stores; omega⟩
        case measure =>
          have h0 : lenOf (Value.slice av m cv) = m := rfl
          simp [hln, h0]
          omega
      · have hNOP := trivial
        obtain rfl : m = s.len := by omega
        go_wp2_with fail
        refine wp_region_inv0 (by kernel_rfl) (by kernel_rfl) (fun _ w' => HC s w w1.heap.size (w1.heap.size + 1 + 1) (w1.heap.size + 1 + 1 + 1) w2.heap.size (w1.heap.size + 1) #[.int .i64 s.bend, .int .i64 s.days, .int .i64 s.jump, .int .i64 s.times, .int .i64 s.move, .slice a s.stores.length c] (((s.len : Int) - 1) :: st :: h :: j) w' ∧ Memo s (w1.heap.size + 1) n' w' ∧ w'.ownsRow (w2.heap.size + 1) 3 1 (.slice av s.len cv) s.len (l.map (Value.int .i64))) ⟨HH.out.below (Below.refl _ wr).drew, HM.out.below (Below.refl _ wr).drew, ownsRow.below HO.out (Below.refl _ wr).drew⟩ ?_
        apply obl_det
        case hrun =>
          intro D y wz hW hD R hR
          have HRR := Lib.hid hR
          clear hR hD
          have HW := Lib.hid hW
          clear hW
          go_wp2
          exact HRR.out _ HW.out
        case hnp => rfl
        case hv => first | exact ⟨_, fun _ => rfl⟩ | exact ⟨undef, fun _ => rfl⟩
        apply obl_det
        case hrun =>
          intro D y wz hW hD R hR
          have HRR := Lib.hid hR
          clear hR hD
          have HW := Lib.hid hW
          have cx := fun i => cell_of_row wz _ i _ _ _ hW.1.rX
          clear hW
          go_wp2
          exact HRR.out _ HW.out
        case hnp => rfl
        case hv => first | exact ⟨_, fun _ => rfl⟩ | exact ⟨undef, fun _ => rfl⟩
        apply obl_det
        case hrun =>
          intro D y wz hW hD R hR
          have HRR := Lib.hid hR
          clear hR hD
          have HW := Lib.hid hW
          have cs := fun i => cell_of_row wz _ i _ _ _ hW.1.rS
          clear hW
          go_wp2
          exact HRR.out _ HW.out
        case hnp => rfl
        case hv => first | exact ⟨_, fun _ => rfl⟩ | exact ⟨undef, fun _ => rfl⟩
        apply obl_det
        case hrun =>
          intro D y wz hW hD R hR
          have HRR := Lib.hid hR
          have HW := Lib.hid hW
          clear hR hD hW
          go_wp2_with (go_at_call 40; refine (seaDays_any s _ _ ((HV.out.below HW.out.1.bel).mono HW.out.1.bel.size) HL1.out).mono ?_; rintro e w' ⟨rfl, hbw⟩)
          exact HRR.out _ ⟨HW.out.1.below hbw, HW.out.2.1.below hbw, ownsRow.below HW.out.2.2 hbw⟩
        case hnp => rfl
        case hv => first | exact ⟨_, fun _ => rfl⟩ | exact ⟨undef, fun _ => rfl⟩
        apply obl_det
        case hrun =>
          intro D y wz hW hD R hR
          have HRR := Lib.hid hR
          clear hR hD
          have HW := Lib.hid hW
          clear hW
          go_wp2
          exact HRR.out _ HW.out
        case hnp => rfl
        case hv => first | exact ⟨_, fun _ => rfl⟩ | exact ⟨undef, fun _ => rfl⟩
        apply obl_det
        case hrun =>
          intro D y wz hW hD R hR
          have HRR := Lib.hid hR
          clear hR hD
          have HW := Lib.hid hW
          clear hW
          go_wp2
          exact HRR.out _ HW.out
        case hnp => rfl
        case hv => first | exact ⟨_, fun _ => rfl⟩ | exact ⟨undef, fun _ => rfl⟩
        apply obl_nil
        intro D y w8 hall hW
        have HW8 := Lib.hid hW
        clear hW hall
        simp only [Exit.then]
        go_wp2_with fail
        have hll := HLL.out
        have HCV : Hid (cheapV s = (l, p1, 0)) := by
          unfold Hid cheapV
          rw [if_pos HE.out, HP.out, if_neg (by omega), HWAY.out, show s.len - s.len = 0 by omega]
          simp [wayRun]
        have ho : w8.ownsRow (w2.heap.size + 1) 3 1 (.slice av s.len cv) l.length (l.map (Value.int .i64)) := by rw [hll]; exact HW8.out.2.2
        have hoi := ownsRow_ints ho (by omega)
        go_ret3
        exact ⟨.slice av s.len cv, by rw [HCV.out]; rfl, by rw [HCV.out]; exact hoi.1, by rw [HCV.out]; exact hoi.2, HW8.out.1.bel⟩
/-- **Cheapest**, of any season. -/
theorem cheap_any (s : Sea) (vs : Value) (w : World) (hv : StosIn w.heap.size w vs s.stores) :
    Calls Try.prog 26 #[.agg #[.int .i64 s.bend, .int .i64 s.days, .int .i64 s.jump, .int .i64 s.times, .int .i64 s.move, vs]] w (CheapPost s w) := by
  by_cases he : (checkV s).2.2 = 0
  · exact cheap_good s vs w hv he
  · refine (cheap_bad s vs w hv _ rfl he).mono ?_
    rintro e w' ⟨rfl, hb⟩
    have HCV : cheapV s = ([], 0, (checkV s).2.2) := by unfold cheapV; rw [if_neg he]
    exact ⟨.slice none 0 0, by rw [HCV], by rw [HCV]; exact ⟨none, 0, rfl, by simp, .inl rfl⟩, by rw [HCV]; exact ⟨none, 0, rfl, by simp⟩, hb⟩
end Go.Proofs.Ytddapabmfecidaa
