/- mould.Check. -/
import Derived.Test.YtafdagjdpnaddaaW1
import Derived.Test.YtafdagjdpnaddaaBs
namespace Go.Proofs.Ytafdagjdpnaddaa
open Go.RowKit
theorem intsIn_row {w : World} {b : Nat} {l : List Int} {c : Nat} {t : TypeId} (h : w.heap[b]? = some (.cells (ints l) t)) (hl : l.length ≤ 1000) : IntsIn .i64 w.heap.size w (.slice (some ⟨b, 0, none⟩) l.length c) l :=
  ⟨_, _, rfl, by omega, .inr ⟨_, _, rfl, block_lt h, fun i hi => by rw [cell_of_row _ _ _ _ _ _ h, Nat.zero_add, ints_get _ _ hi]⟩⟩
theorem intsIn_new' (w : World) (n : Nat) (hn : w.heap.size = n) (l : List Int) (hl : l.length ≤ 1000) (k : Nat) (hk : l.length = k) (c : Nat) : IntsIn .i64 (w.alloc (.cells (ints l) 3)).heap.size (w.alloc (.cells (ints l) 3)) (.slice (some ⟨n, 0, none⟩) k c) l := by
  subst hn hk
  exact intsIn_row (heap_alloc_new _ _) hl
theorem out_r (r : Bool) (lo hi : Int) (l : List Int) (h : outB lo hi l = r) (v : Value) (w : World) (hv : IntsIn .i64 w.heap.size w v l) :
    Calls Try.prog 48 #[.int .i64 lo, .int .i64 hi, v] w fun e w' => e = .returned (.bool r) ∧ Below w.heap.size w w' := by
  subst h; exact out_any _ _ _ _ _ hv
theorem out_one (lo hi x : Int) : outB lo hi [x] = !within x lo hi := by
  unfold outB outOne within
  simp only [List.any_cons, List.any_nil, Bool.or_false, Bool.not_and]
  congr 1
  all_goals (rw [Bool.eq_iff_iff]; simp)
theorem out_none (lo hi : Int) (l : List Int) : outB lo hi l = !l.all (fun x => within x lo hi) := by
  induction l with
  | nil => rfl
  | cons x l ih =>
    have h1 := out_one lo hi x
    unfold outB at h1 ih ⊢
    rw [List.any_cons, List.all_cons, ih, Bool.not_and]
    simp only [List.any_cons, List.any_nil, Bool.or_false] at h1
    rw [h1]
theorem check_split (m : Mou) : checkE m = if outB 1 8 [m.rings] = true then 7 else if outB 1 500 [m.give] = true then 7 else if outB 0 200 [m.shrink] = true then 7 else if outB 0 m.rings [m.skin] = true then 7
    else if outB 0 2000 [m.pl, m.ph, m.wl, m.wh, m.set] = true then 7 else if outB 1 100000 [m.fill] = true then 7 else if outB 1 60 [m.gap] = true then 7 else if outB 0 100000 [m.deep] = true then 7 else if m.ph < m.pl ∨ m.wh < m.wl then 2 else 0 := by
  unfold checkE numB
  simp only [out_one, out_none 0 2000, List.all_cons, List.all_nil, Bool.and_true, Bool.not_eq_true']
  cases within m.rings 1 8 <;> cases within m.give 1 500 <;> cases within m.shrink 0 200 <;> cases within m.skin 0 m.rings <;> cases within m.fill 1 100000 <;> cases within m.gap 1 60 <;> cases within m.deep 0 100000 <;> simp [Bool.and_assoc]
set_option maxRecDepth 100000 in
set_option maxHeartbeats 4000000 in
theorem check_any (m : Mou) (w : World) : Calls Try.prog 18 #[.agg #[.int .i64 m.rings, .int .i64 m.give, .int .i64 m.pl, .int .i64 m.ph, .int .i64 m.wl, .int .i64 m.wh, .int .i64 m.set, .int .i64 m.shrink, .int .i64 m.skin, .int .i64 m.fill, .int .i64 m.gap, .int .i64 m.deep]] w fun e w' => e = .returned (.int .i64 (checkE m)) ∧ Below w.heap.size w w' := by
  have HS := Lib.hid (check_split m)
  obtain ⟨r0, hr0⟩ : ∃ r, outB 1 8 [m.rings] = r := ⟨_, rfl⟩
  rw [hr0] at HS
  have HR0 := Lib.hid hr0
  clear hr0
  obtain ⟨r1, hr1⟩ : ∃ r, outB 1 500 [m.give] = r := ⟨_, rfl⟩
  rw [hr1] at HS
  have HR1 := Lib.hid hr1
  clear hr1
  obtain ⟨r2, hr2⟩ : ∃ r, outB 0 200 [m.shrink] = r := ⟨_, rfl⟩
  rw [hr2] at HS
  have HR2 := Lib.hid hr2
  clear hr2
  obtain ⟨r3, hr3⟩ : ∃ r, outB 0 m.rings [m.skin] = r := ⟨_, rfl⟩
  rw [hr3] at HS
  have HR3 := Lib.hid hr3
  clear hr3
  obtain ⟨r4, hr4⟩ : ∃ r, outB 0 2000 [m.pl, m.ph, m.wl, m.wh, m.set] = r := ⟨_, rfl⟩
  rw [hr4] at HS
  have HR4 := Lib.hid hr4
  clear hr4
  obtain ⟨r5, hr5⟩ : ∃ r, outB 1 100000 [m.fill] = r := ⟨_, rfl⟩
  rw [hr5] at HS
  have HR5 := Lib.hid hr5
  clear hr5
  obtain ⟨r6, hr6⟩ : ∃ r, outB 1 60 [m.gap] = r := ⟨_, rfl⟩
  rw [hr6] at HS
  have HR6 := Lib.hid hr6
  clear hr6
  obtain ⟨r7, hr7⟩ : ∃ r, outB 0 100000 [m.deep] = r := ⟨_, rfl⟩
  rw [hr7] at HS
  have HR7 := Lib.hid hr7
  clear hr7
  have C0 := Lib.hid ((Bs.nil w).push _ rfl (.cells #[.int .i64 m.rings, .int .i64 m.give, .int .i64 m.pl, .int .i64 m.ph, .int .i64 m.wl, .int .i64 m.wh, .int .i64 m.set, .int .i64 m.shrink, .int .i64 m.skin, .int .i64 m.fill, .int .i64 m.gap, .int .i64 m.deep] 25))
  generalize hE : checkE m = E at *
  clear hE
  go_enter Try.func18, Try.ntmps18
  go_wp2_with fail
  refine (out_r r0 1 8 _ HR0.out _ _ (intsIn_new' (w.alloc (.cells #[.int .i64 m.rings, .int .i64 m.give, .int .i64 m.pl, .int .i64 m.ph, .int .i64 m.wl, .int .i64 m.wh, .int .i64 m.set, .int .i64 m.shrink, .int .i64 m.skin, .int .i64 m.fill, .int .i64 m.gap, .int .i64 m.deep] 25)) (w.heap.size + 1) (by simp) [m.rings] (by simp) 1 rfl 1)).mono ?_
  rintro e w1 ⟨rfl, hbw⟩
  have C1 := Lib.hid ((C0.out.alloc _).call hbw)
  have c1 := C1.out.cell 0 rfl
  clear hbw C0
  cases r0
  rotate_left
  · go_wp2_with fail
    go_ret
    exact ⟨by rw [HS.out]; rfl, C1.out.bel⟩
  go_wp2_with fail
  refine (out_r r1 1 500 _ HR1.out _ _ (intsIn_new' w1 _ rfl [m.give] (by simp) 1 rfl 1)).mono ?_
  rintro e w2 ⟨rfl, hbw⟩
  have C2 := Lib.hid ((C1.out.alloc _).call hbw)
  have c2 := C2.out.cell 0 rfl
  clear hbw C1 c1
  cases r1
  rotate_left
  · go_wp2_with fail
    go_ret
    exact ⟨by rw [HS.out]; rfl, C2.out.bel⟩
  go_wp2_with fail
  refine (out_r r2 0 200 _ HR2.out _ _ (intsIn_new' w2 _ rfl [m.shrink] (by simp) 1 rfl 1)).mono ?_
  rintro e w3 ⟨rfl, hbw⟩
  have C3 := Lib.hid ((C2.out.alloc _).call hbw)
  have c3 := C3.out.cell 0 rfl
  clear hbw C2 c2
  cases r2
  rotate_left
  · go_wp2_with fail
    go_ret
    exact ⟨by rw [HS.out]; rfl, C3.out.bel⟩
  go_wp2_with fail
  refine (out_r r3 0 m.rings _ HR3.out _ _ (intsIn_new' w3 _ rfl [m.skin] (by simp) 1 rfl 1)).mono ?_
  rintro e w4 ⟨rfl, hbw⟩
  have C4 := Lib.hid ((C3.out.alloc _).call hbw)
  have c4 := C4.out.cell 0 rfl
  clear hbw C3 c3
  cases r3
  rotate_left
  · go_wp2_with fail
    go_ret
    exact ⟨by rw [HS.out]; rfl, C4.out.bel⟩
  go_wp2_with fail
  refine (out_r r4 0 2000 _ HR4.out _ _ (intsIn_new' w4 _ rfl [m.pl, m.ph, m.wl, m.wh, m.set] (by simp) 5 rfl 5)).mono ?_
  rintro e w5 ⟨rfl, hbw⟩
  have C5 := Lib.hid ((C4.out.alloc _).call hbw)
  have c5 := C5.out.cell 0 rfl
  clear hbw C4 c4
  cases r4
  rotate_left
  · go_wp2_with fail
    go_ret
    exact ⟨by rw [HS.out]; rfl, C5.out.bel⟩
  go_wp2_with fail
  refine (out_r r5 1 100000 _ HR5.out _ _ (intsIn_new' w5 _ rfl [m.fill] (by simp) 1 rfl 1)).mono ?_
  rintro e w6 ⟨rfl, hbw⟩
  have C6 := Lib.hid ((C5.out.alloc _).call hbw)
  have c6 := C6.out.cell 0 rfl
  clear hbw C5 c5
  cases r5
  rotate_left
  · go_wp2_with fail
    go_ret
    exact ⟨by rw [HS.out]; rfl, C6.out.bel⟩
  go_wp2_with fail
  refine (out_r r6 1 60 _ HR6.out _ _ (intsIn_new' w6 _ rfl [m.gap] (by simp) 1 rfl 1)).mono ?_
  rintro e w7 ⟨rfl, hbw⟩
  have C7 := Lib.hid ((C6.out.alloc _).call hbw)
  have c7 := C7.out.cell 0 rfl
  clear hbw C6 c6
  cases r6
  rotate_left
  · go_wp2_with fail
    go_ret
    exact ⟨by rw [HS.out]; rfl, C7.out.bel⟩
  go_wp2_with fail
  refine (out_r r7 0 100000 _ HR7.out _ _ (intsIn_new' w7 _ rfl [m.deep] (by simp) 1 rfl 1)).mono ?_
  rintro e w8 ⟨rfl, hbw⟩
  have C8 := Lib.hid ((C7.out.alloc _).call hbw)
  have c8 := C8.out.cell 0 rfl
  clear hbw C7 c7
  cases r7
  rotate_left
  · go_wp2_with fail
    go_ret
    exact ⟨by rw [HS.out]; rfl, C8.out.bel⟩
  have HS' : Hid (E = if m.ph < m.pl ∨ m.wh < m.wl then 2 else 0) := by rw [HS.out]; unfold Hid; rfl
  clear HS
  by_cases h1 : m.ph < m.pl
  · have hd : decide (m.ph < m.pl) = true := by simpa using h1
    go_wp2_with fail
    go_ret
    exact ⟨ret_int (b := E) (show (2 : Int) = E by rw [HS'.out, if_pos (.inl h1)]), C8.out.bel⟩
  · have hd : decide (m.ph < m.pl) = false := by simpa using h1
    by_cases h2 : m.wh < m.wl
    · have hd2 : decide (m.wh < m.wl) = true := by simpa using h2
      go_wp2_with fail
      go_ret
      exact ⟨ret_int (b := E) (show (2 : Int) = E by rw [HS'.out, if_pos (.inr h2)]), C8.out.bel⟩
    · have hd2 : decide (m.wh < m.wl) = false := by simpa using h2
      go_wp2_with fail
      go_ret
      exact ⟨ret_int (b := E) (show (0 : Int) = E by rw [HS'.out, if_neg (by omega)]), C8.out.bel⟩
end Go.Proofs.Ytafdagjdpnaddaa
