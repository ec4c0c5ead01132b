/- stearinref05: in, warm, Check. -/
import Derived.Test.YtafdagjdpnaddaaW2
namespace Go.Proofs.Ytafdagjdpnaddaa
open Go.RowKit
theorem in_r (r : Bool) (n lo hi : Int) (h : within n lo hi = r) (w : World) : Calls Try.prog 49 #[.int .i64 n, .int .i64 lo, .int .i64 hi] w fun e w' => e = .returned (.bool r) ∧ w = w' := by
  subst h
  unfold within
  go_enter Try.func49, Try.ntmps49
  by_cases h : lo ≤ n
  · have h1 : decide (lo ≤ n) = true := by simpa using h
    go_wp2
    all_goals (go_ret; exact ⟨by simp [h], rfl⟩)
  · have h1 : decide (lo ≤ n) = false := by simpa using h
    go_wp2
    all_goals (go_ret; exact ⟨by simp, rfl⟩)
def warmB (lo hi : Int) : Bool := within lo 0 2000 && within hi 0 2000
theorem warm_r (r : Bool) (lo hi : Int) (h : warmB lo hi = r) (w : World) : Calls Try.prog 50 #[.agg #[.int .i64 lo, .int .i64 hi]] w fun e w' => e = .returned (.bool r) ∧ Below w.heap.size w w' := by
  subst h
  unfold warmB
  obtain ⟨a, ha⟩ : ∃ a, within lo 0 2000 = a := ⟨_, rfl⟩
  obtain ⟨b, hb⟩ : ∃ b, within hi 0 2000 = b := ⟨_, rfl⟩
  rw [ha, hb]
  have HA := Lib.hid ha
  have HB := Lib.hid hb
  clear ha hb
  go_enter Try.func50, Try.ntmps50
  go_wp2_with fail
  refine (in_r a _ _ _ HA.out _).mono ?_
  rintro e w1 ⟨rfl, rfl⟩
  cases a
  · go_wp2_with fail
    go_ret
    exact ⟨rfl, (Below.refl _ _).alloc (Nat.le_refl _) _⟩
  · go_wp2_with fail
    refine (in_r b _ _ _ HB.out _).mono ?_
    rintro e w1 ⟨rfl, rfl⟩
    go_wp2_with fail
    go_ret
    exact ⟨rfl, (Below.refl _ _).alloc (Nat.le_refl _) _⟩
theorem check_split2 (m : Mou) : checkE m = if within m.rings 1 8 = false then 7 else if within m.give 1 500 = false then 7 else if warmB m.pl m.ph = false then 7 else if warmB m.wl m.wh = false then 7 else if within m.set 0 2000 = false then 7 else if within m.shrink 0 200 = false then 7 else if within m.skin 0 m.rings = false then 7 else if within m.fill 1 100000 = false then 7 else if within m.gap 1 60 = false then 7 else if within m.deep 0 100000 = false then 7 else if m.ph < m.pl ∨ m.wh < m.wl then 2 else 0 := by
  unfold checkE numB warmB
  cases within m.rings 1 8 <;> cases within m.give 1 500 <;> cases within m.shrink 0 200 <;> cases within m.skin 0 m.rings <;> cases within m.fill 1 100000 <;> cases within m.gap 1 60 <;> cases within m.deep 0 100000 <;> simp [Bool.and_assoc]
  all_goals (cases within m.pl 0 2000 <;> cases within m.ph 0 2000 <;> cases within m.wl 0 2000 <;> cases within m.wh 0 2000 <;> cases within m.set 0 2000 <;> simp)
set_option maxRecDepth 100000 in
set_option maxHeartbeats 4000000 in
theorem checkR_any (m : Mou) (w : World) : Calls Try.prog 19 #[.agg #[.int .i64 m.rings, .int .i64 m.give, .int .i64 m.pl, .int .i64 m.ph, .int .i64 m.wl, .int .i64 m.wh, .int .i64 m.set, .int .i64 m.shrink, .int .i64 m.skin, .int .i64 m.fill, .int .i64 m.gap, .int .i64 m.deep]] w fun e w' => e = .returned (.int .i64 (checkE m)) ∧ Below w.heap.size w w' := by
  have HS := Lib.hid (check_split2 m)
  obtain ⟨r0, hr0⟩ : ∃ r, within m.rings 1 8 = r := ⟨_, rfl⟩
  rw [hr0] at HS
  have HR0 := Lib.hid hr0
  clear hr0
  obtain ⟨r1, hr1⟩ : ∃ r, within m.give 1 500 = r := ⟨_, rfl⟩
  rw [hr1] at HS
  have HR1 := Lib.hid hr1
  clear hr1
  obtain ⟨r2, hr2⟩ : ∃ r, warmB m.pl m.ph = r := ⟨_, rfl⟩
  rw [hr2] at HS
  have HR2 := Lib.hid hr2
  clear hr2
  obtain ⟨r3, hr3⟩ : ∃ r, warmB m.wl m.wh = r := ⟨_, rfl⟩
  rw [hr3] at HS
  have HR3 := Lib.hid hr3
  clear hr3
  obtain ⟨r4, hr4⟩ : ∃ r, within m.set 0 2000 = r := ⟨_, rfl⟩
  rw [hr4] at HS
  have HR4 := Lib.hid hr4
  clear hr4
  obtain ⟨r5, hr5⟩ : ∃ r, within m.shrink 0 200 = r := ⟨_, rfl⟩
  rw [hr5] at HS
  have HR5 := Lib.hid hr5
  clear hr5
  obtain ⟨r6, hr6⟩ : ∃ r, within m.skin 0 m.rings = r := ⟨_, rfl⟩
  rw [hr6] at HS
  have HR6 := Lib.hid hr6
  clear hr6
  obtain ⟨r7, hr7⟩ : ∃ r, within m.fill 1 100000 = r := ⟨_, rfl⟩
  rw [hr7] at HS
  have HR7 := Lib.hid hr7
  clear hr7
  obtain ⟨r8, hr8⟩ : ∃ r, within m.gap 1 60 = r := ⟨_, rfl⟩
  rw [hr8] at HS
  have HR8 := Lib.hid hr8
  clear hr8
  obtain ⟨r9, hr9⟩ : ∃ r, within m.deep 0 100000 = r := ⟨_, rfl⟩
  rw [hr9] at HS
  have HR9 := Lib.hid hr9
  clear hr9
  have C0 := Lib.hid ((Bs.nil w).push _ rfl (.cells #[.int .i64 m.rings, .int .i64 m.give, .int .i64 m.pl, .int .i64 m.ph, .int .i64 m.wl, .int .i64 m.wh, .int .i64 m.set, .int .i64 m.shrink, .int .i64 m.skin, .int .i64 m.fill, .int .i64 m.gap, .int .i64 m.deep] 25))
  generalize hE : checkE m = E at *
  clear hE
  go_enter Try.func19, Try.ntmps19
  go_wp2_with fail
  refine (in_r r0 _ _ _ HR0.out _).mono ?_
  rintro e w' ⟨rfl, rfl⟩
  cases r0
  · go_wp2_with fail
    go_ret
    exact ⟨by rw [HS.out]; rfl, C0.out.bel⟩
  go_wp2_with fail
  refine (in_r r1 _ _ _ HR1.out _).mono ?_
  rintro e w' ⟨rfl, rfl⟩
  cases r1
  · go_wp2_with fail
    go_ret
    exact ⟨by rw [HS.out]; rfl, C0.out.bel⟩
  go_wp2_with fail
  refine (warm_r r2 _ _ HR2.out _).mono ?_
  rintro e w2 ⟨rfl, hbw⟩
  have C2 := Lib.hid (C0.out.call hbw)
  have c2 := C2.out.cell 0 rfl
  clear hbw C0
  cases r2
  · go_wp2_with fail
    go_ret
    exact ⟨by rw [HS.out]; rfl, C2.out.bel⟩
  go_wp2_with fail
  refine (warm_r r3 _ _ HR3.out _).mono ?_
  rintro e w3 ⟨rfl, hbw⟩
  have C3 := Lib.hid (C2.out.call hbw)
  have c3 := C3.out.cell 0 rfl
  clear hbw C2 c2
  cases r3
  · go_wp2_with fail
    go_ret
    exact ⟨by rw [HS.out]; rfl, C3.out.bel⟩
  go_wp2_with fail
  refine (in_r r4 _ _ _ HR4.out _).mono ?_
  rintro e w' ⟨rfl, rfl⟩
  cases r4
  · go_wp2_with fail
    go_ret
    exact ⟨by rw [HS.out]; rfl, C3.out.bel⟩
  go_wp2_with fail
  refine (in_r r5 _ _ _ HR5.out _).mono ?_
  rintro e w' ⟨rfl, rfl⟩
  cases r5
  · go_wp2_with fail
    go_ret
    exact ⟨by rw [HS.out]; rfl, C3.out.bel⟩
  go_wp2_with fail
  refine (in_r r6 _ _ _ HR6.out _).mono ?_
  rintro e w' ⟨rfl, rfl⟩
  cases r6
  · go_wp2_with fail
    go_ret
    exact ⟨by rw [HS.out]; rfl, C3.out.bel⟩
  go_wp2_with fail
  refine (in_r r7 _ _ _ HR7.out _).mono ?_
  rintro e w' ⟨rfl, rfl⟩
  cases r7
  · go_wp2_with fail
    go_ret
    exact ⟨by rw [HS.out]; rfl, C3.out.bel⟩
  go_wp2_with fail
  refine (in_r r8 _ _ _ HR8.out _).mono ?_
  rintro e w' ⟨rfl, rfl⟩
  cases r8
  · go_wp2_with fail
    go_ret
    exact ⟨by rw [HS.out]; rfl, C3.out.bel⟩
  go_wp2_with fail
  refine (in_r r9 _ _ _ HR9.out _).mono ?_
  rintro e w' ⟨rfl, rfl⟩
  cases r9
  · go_wp2_with fail
    go_ret
    exact ⟨by rw [HS.out]; rfl, C3.out.bel⟩
  have HS' : Hid (E = if m.ph < m.pl ∨ m.wh < m.wl then 2 else 0) := by rw [HS.out]; unfold Hid; rfl
  clear HS
  by_cases h1 : m.ph < m.pl
  · have hd : decide (m.ph < m.pl) = true := by simpa using h1
    go_wp2_with fail
    go_ret
    exact ⟨ret_int (b := E) (show (2 : Int) = E by rw [HS'.out, if_pos (.inl h1)]), C3.out.bel⟩
  · have hd : decide (m.ph < m.pl) = false := by simpa using h1
    by_cases h2 : m.wh < m.wl
    · have hd2 : decide (m.wh < m.wl) = true := by simpa using h2
      go_wp2_with fail
      go_ret
      exact ⟨ret_int (b := E) (show (2 : Int) = E by rw [HS'.out, if_pos (.inr h2)]), C3.out.bel⟩
    · have hd2 : decide (m.wh < m.wl) = false := by simpa using h2
      go_wp2_with fail
      go_ret
      exact ⟨ret_int (b := E) (show (0 : Int) = E by rw [HS'.out, if_neg (by omega)]), C3.out.bel⟩
end Go.Proofs.Ytafdagjdpnaddaa
