/- The example of layer 4: a shop, a taper, dips. -/
import Derived.Test.YtpkggjobdmchlaaGreatDoorE24
import Derived.BigQuiet
import Derived.Deep.Cut
import Derived.Deep.CutBlock
import Derived.Lib.MinMax
namespace Go.Proofs.YtpkggjobdmchlaaGreatDoor
open Go.RowKit
def exS : DShop := ⟨600, 500, 5, 4, 1, 2, 40, 2, [⟨⟨#[108, 111, 119]⟩, (610, 630)⟩, ⟨⟨#[104, 105, 103, 104]⟩, (660, 680)⟩]⟩
def exTp : DTap := ⟨2000, 2000, 2000⟩
def exD : List DDip := [⟨0, 3, 40, false⟩, ⟨0, 7, 40, false⟩, ⟨0, 3, 30, false⟩, ⟨0, 3, 30, true⟩]
abbrev exDC : Array Value := #[.int .i64 0, .int .i64 3, .int .i64 40, .bool false, .int .i64 0, .int .i64 7, .int .i64 40, .bool false, .int .i64 0, .int .i64 3, .int .i64 30, .bool false, .int .i64 0, .int .i64 3, .int .i64 30, .bool true]
theorem span36w (lo hi : Int) (w : World) : Calls Tryz.prog 36 #[.int .i64 lo, .int .i64 hi] w
    fun e w' => e = .returned (.agg #[.int .i64 lo, .int .i64 hi]) ∧ Below w.heap.size w w' := by
  have HB := Lib.hid ((Below.refl w.heap.size w).alloc (Nat.le_refl _) (.cells #[.int .i64 lo, .int .i64 hi] 25))
  have HR := Lib.hid (heap_alloc_new w (.cells #[.int .i64 lo, .int .i64 hi] 25))
  go_enter Tryz.func36, Tryz.ntmps36
  go_wp2_with fail
  exact bodyPost_ret (v := .agg #[.int .i64 lo, .int .i64 hi]) (results_cell_row (fn := Tryz.f36) rfl _ _ _ _ _ _ _ rfl HR.out Tryz.underlying25 rfl infoSpan) rfl ⟨rfl, HB.out⟩
theorem taper32 (w : World) : Calls Tryz.prog 32 #[] w fun e w' => e = .returned (.agg (tapC exTp)) ∧ Below w.heap.size w w' := by
  have HB := Lib.hid ((Below.refl w.heap.size w).alloc (Nat.le_refl _) (.cells (tapC exTp) 34))
  have C0 : Hid (Bs w [(w.heap.size, .cells #[.int .i64 0, .int .i64 0, .int .i64 0] 34)] _) := Lib.hid ((Bs.nil w).push _ rfl (.cells #[.int .i64 0, .int .i64 0, .int .i64 0] 34))
  go_enter Tryz.func32, Tryz.ntmps32
  go_wp2_with (refine wpList_store_bs rfl 34 _ _ rfl C0.out 0 _ #[.int .i64 2000, .int .i64 2000, .int .i64 2000] _ _ rfl rfl rfl infoDT rfl (by simp [Value.oneCell']) ?_; intro w9 hC9; have C9 : Hid (Bs w [(w.heap.size, .cells #[.int .i64 2000, .int .i64 2000, .int .i64 2000] 34)] w9) := hC9; clear hC9)
  exact bodyPost_ret (v := .agg #[.int .i64 2000, .int .i64 2000, .int .i64 2000]) (results_cell_row (fn := Tryz.f32) rfl _ _ _ _ _ _ _ rfl (C9.out.get 0 rfl) Tryz.underlying34 rfl infoDT) rfl ⟨rfl, C9.out.bel⟩
theorem dips33 (w : World) : Calls Tryz.prog 33 #[] w fun e w' => e = .returned (.slice (some ⟨w.heap.size, 0, none⟩) 4 4) ∧ w' = w.alloc (.cells exDC 54) := by
  go_enter Tryz.func33, Tryz.ntmps33
  go_wp2_with fail
  go_ret
  exact ⟨rfl, rfl⟩
theorem shop31 (w : World) : Calls Tryz.prog 31 #[] w (fun e w' => ∃ v, e = .returned (.agg (dshopC exS v)) ∧ DBathsIn w'.heap.size w' v exS.baths ∧ Below w.heap.size w w') := by
  have C0 := Lib.hid ((Bs.nil w).push _ rfl (.cells #[.int .i64 0, .int .i64 0, .int .i64 0, .int .i64 0, .int .i64 0, .int .i64 0, .int .i64 0, .int .i64 0, .slice none 0 0] 30))
  go_enter Tryz.func31, Tryz.ntmps31
  go_wp2_with fail
  refine (span36w 610 630 _).mono ?_
  rintro e w1 ⟨rfl, hb⟩
  have C1 := Lib.hid (C0.out.call hb)
  clear hb C0
  go_wp2_with fail
  refine (span36w 660 680 _).mono ?_
  rintro e w2 ⟨rfl, hb⟩
  have C2 := Lib.hid (C1.out.call hb)
  clear hb C1
  have C3 := Lib.hid (C2.out.push _ rfl (.cells #[.string ⟨#[108, 111, 119]⟩, .int .i64 610, .int .i64 630, .string ⟨#[104, 105, 103, 104]⟩, .int .i64 660, .int .i64 680] 124))
  clear C2
  go_wp2_with (refine wpList_store_bs rfl 30 _ _ rfl C3.out 0 _ _ _ _ rfl rfl rfl infoDS rfl (by simp [Value.oneCell']) ?_; intro w9 hC9)
  have H0 := hC9.get 0 rfl
  have H1 := hC9.get 1 rfl
  refine bodyPost_ret (v := .agg (dshopC exS _)) (results_cell_row (fn := Tryz.f31) rfl _ _ _ _ _ _ _ rfl H0 Tryz.underlying30 rfl infoDS) rfl ⟨_, rfl, ?_, hC9.bel⟩
  refine ⟨_, _, rfl, by simp [exS], by simp [exS], .inr ⟨_, 0, rfl, block_lt H1, fun i hi => ?_⟩⟩
  have hi3 : i = 0 ∨ i = 1 := by simp [exS] at hi; omega
  rcases hi3 with rfl | rfl <;> exact ⟨cell_of_row _ _ _ _ _ _ H1, by decide, cell_of_row _ _ _ _ _ _ H1, cell_of_row _ _ _ _ _ _ H1⟩
/-- A part of the example's dips. -/
theorem dips_at {w : World} {g B : Nat} (h : w.heap[g]? = some (.cells exDC 54)) (hB : g < B) (a n : Nat) (l : List DDip) (hl : l = (exD.drop a).take n) (hn : a + n ≤ 4) (c : Nat) (hc : n ≤ c) (o : Nat) (ho : o = a * 4) : DipsIn B w (.slice (some ⟨g, o, none⟩) n c) l := by
  subst ho
  have hlen : l.length = n := by rw [hl, List.length_take, List.length_drop]; simp [exD]; omega
  subst hlen
  refine ⟨_, c, rfl, by omega, hc, .inr ⟨g, a * 4, rfl, hB, fun i hi => ?_⟩⟩
  have hai : a + i < 4 := by omega
  have hv : l.getD i default = exD.getD (a + i) default := by
    conv => lhs; rw [hl]
    simp [List.getD_eq_getElem?_getD, List.getElem?_drop, hi]
  rw [hv]
  have ho : a * 4 + i * 4 = (a + i) * 4 := by omega
  show w.cell? ⟨g, a * 4 + i * 4, none⟩ = _ ∧ w.cell? ⟨g, a * 4 + i * 4 + 1, none⟩ = _ ∧ w.cell? ⟨g, a * 4 + i * 4 + 2, none⟩ = _ ∧ w.cell? ⟨g, a * 4 + i * 4 + 3, none⟩ = _
  rw [ho]
  rcases (by omega : a + i = 0 ∨ a + i = 1 ∨ a + i = 2 ∨ a + i = 3) with e | e | e | e <;> rw [e] <;> exact ⟨cell_of_row _ _ _ _ _ _ h, cell_of_row _ _ _ _ _ _ h, cell_of_row _ _ _ _ _ _ h, cell_of_row _ _ _ _ _ _ h⟩
theorem exS_ok : DOk exS where
  melt := by decide
  coat := by decide
  thin := by decide
  back := by decide
  hold := by decide
  draw := by decide
  set := by decide
  run := by decide
  n1 := by decide
  n6 := by decide
  name := fun i hi => by
    rcases (by simp [exS] at hi; omega : i = 0 ∨ i = 1) with rfl | rfl <;> kernel_rfl
  twice := fun i hi => by
    rcases (by simp [exS] at hi; omega : i = 0 ∨ i = 1) with rfl | rfl <;> kernel_rfl
  warm := fun i hi => by
    rcases (by simp [exS] at hi; omega : i = 0 ∨ i = 1) with rfl | rfl <;> decide
theorem exTp_ok : TapOk exTp := ⟨by decide, by decide, by decide⟩
end Go.Proofs.YtpkggjobdmchlaaGreatDoor
/- stearinref04: Ints, Ranges at equal lists. -/
namespace Go.Proofs.YtpkggjobdmchlaaGreatDoor
open Go.RowKit
set_option maxRecDepth 100000 in
set_option maxHeartbeats 4000000 in
theorem ints4_same (l : List Int) (v u : Value) (w : World) (hv : IntsIn .i64 w.heap.size w v l) (hu : IntsIn .i64 w.heap.size w u l) : Calls Tryz.prog 40 #[v, u] w fun e w' => e = .returned (.bool true) ∧ Below w.heap.size w w' := by
  obtain ⟨a, c, rfl, hl, hv⟩ := hv
  obtain ⟨a2, c2, rfl, -, hu⟩ := hu
  have HV := Lib.hid hv
  have HU := Lib.hid hu
  clear hv hu
  have hq : ((l.length : Int) != (l.length : Int)) = false := by simp
  obtain ⟨n, hn⟩ : ∃ n, l.length = n := ⟨_, rfl⟩
  have HN := Lib.hid hn
  rw [hn] at hl hq ⊢
  clear hn
  go_enter Tryz.func40, Tryz.ntmps40
  go_wp2_with fail
  clear hq
  go_loopw [5] (fun kv wr => ∃ k : Nat, kv = .int .i64 k ∧ k ≤ n ∧ Below w.heap.size w wr) (fun kv _ => n - (intOf kv).toNat)
  case atStart => exact ⟨0, rfl, by omega, Below.refl _ _⟩
  case round =>
    obtain ⟨k, rfl, hk, hb⟩ := hrel
    have CB := Lib.hid hb
    clear hb
    by_cases hlt : k < n
    · have hnn := (HN.out : l.length = n)
      obtain ⟨b, o, rfl, hbb, hc⟩ := HV.out.resolve_left (by intro h; rw [h] at hnn; simp at hnn; omega)
      obtain ⟨b2, o2, rfl, hbb2, hc2⟩ := HU.out.resolve_left (by intro h; rw [h] at hnn; simp at hnn; omega)
      have h1 : wr.cell? ⟨b, o + k, none⟩ = some (.int .i64 (l.getD k 0)) := (CB.out.cell (p := ⟨b, o + k, none⟩) hbb).trans (hc k (by omega))
      have h2 : wr.cell? ⟨b2, o2 + k, none⟩ = some (.int .i64 (l.getD k 0)) := (CB.out.cell (p := ⟨b2, o2 + k, none⟩) hbb2).trans (hc2 k (by omega))
      clear hc hc2 hnn
      generalize l.getD k 0 = x at *
      have hq6 : (x != x) = false := by simp
      go_wp2_with fail
      go_quiet (fail)
      simp only [Exit.then]
      go_wp2_with fail
      refine ⟨⟨k + 1, by push_cast; rfl, by omega, ⟨CB.out.os, CB.out.tape, CB.out.output, CB.out.size, CB.out.block⟩⟩, ?_⟩
      simp [intOf]
      omega
    · obtain rfl : n = k := by omega
      go_wp2_with fail
      go_ret
      exact ⟨rfl, CB.out⟩

def rdRng : Rd DRng where
  sz := 6
  rd _ w b o x := w.cell? ⟨b, o, none⟩ = some (.int .i64 x.top.1) ∧ w.cell? ⟨b, o + 1, none⟩ = some (.int .i64 x.top.2) ∧ w.cell? ⟨b, o + 2, none⟩ = some (.int .i64 x.foot.1) ∧ w.cell? ⟨b, o + 3, none⟩ = some (.int .i64 x.foot.2) ∧ w.cell? ⟨b, o + 4, none⟩ = some (.int .i64 x.skew.1) ∧ w.cell? ⟨b, o + 5, none⟩ = some (.int .i64 x.skew.2)
  below hbb hb h := ⟨(hb.cell (p := ⟨_, _, none⟩) hbb).trans h.1, (hb.cell (p := ⟨_, _, none⟩) hbb).trans h.2.1, (hb.cell (p := ⟨_, _, none⟩) hbb).trans h.2.2.1, (hb.cell (p := ⟨_, _, none⟩) hbb).trans h.2.2.2.1, (hb.cell (p := ⟨_, _, none⟩) hbb).trans h.2.2.2.2.1, (hb.cell (p := ⟨_, _, none⟩) hbb).trans h.2.2.2.2.2⟩
  mono _ h := h
abbrev RngsIn := SlIn rdRng
theorem stoodSP : Tryz.prog.stoodInHeld 25 = false := by kernel_rfl
theorem fieldsSP : Tryz.prog.underlying 25 = some (.struct (Tryz.prog.fieldsOf 25)) := by kernel_rfl
theorem stoodRT : Tryz.prog.stoodInHeld 95 = false := by kernel_rfl
theorem fieldsRT : Tryz.prog.underlying 95 = some (.struct (Tryz.prog.fieldsOf 95)) := by kernel_rfl
set_option maxRecDepth 100000 in
theorem run_equalIn_span (d : Nat) (a b c e : Int) (w : World) : (Op.equalIn (d + 2) 25 (.agg #[.int .i64 a, .int .i64 b]) (.agg #[.int .i64 c, .int .i64 e])).run Tryz.prog w = .ok (a == c && b == e) w := by
  rw [run_equalIn_agg w (d + 1) 25 _ _ fieldsSP stoodSP]
  go_simp
  by_cases h1 : a = c <;> by_cases h2 : b = e <;> simp [h1, h2]
set_option maxRecDepth 100000 in
theorem run_equalIn_rng (r : DRng) (w : World) : (Op.equalIn 10000 95 (.agg (rngC r)) (.agg (rngC r))).run Tryz.prog w = .ok true w := by
  have h := fun a b => run_equalIn_span 9997 a b a b w
  rw [show (10000 : Nat) = 9999 + 1 from rfl, run_equalIn_agg w 9999 95 _ _ fieldsRT stoodRT]
  go_simp
  try simp [h]
set_option maxRecDepth 100000 in
set_option maxHeartbeats 4000000 in
theorem ranges4_same (l : List DRng) (v u : Value) (w : World) (hv : RngsIn w.heap.size w v l) (hu : RngsIn w.heap.size w u l) : Calls Tryz.prog 39 #[v, u] w fun e w' => e = .returned (.bool true) ∧ Below w.heap.size w w' := by
  obtain ⟨a, c, rfl, hl, -, hv⟩ := hv
  obtain ⟨a2, c2, rfl, -, -, hu⟩ := hu
  have HV := Lib.hid hv
  have HU := Lib.hid hu
  clear hv hu
  have hq : ((l.length : Int) != (l.length : Int)) = false := by simp
  obtain ⟨n, hn⟩ : ∃ n, l.length = n := ⟨_, rfl⟩
  have HN := Lib.hid hn
  rw [hn] at hl hq ⊢
  clear hn
  go_enter Tryz.func39, Tryz.ntmps39
  go_wp2_with fail
  clear hq
  go_loopw [5] (fun kv wr => ∃ k : Nat, kv = .int .i64 k ∧ k ≤ n ∧ Below w.heap.size w wr) (fun kv _ => n - (intOf kv).toNat)
  case atStart => exact ⟨0, rfl, by omega, Below.refl _ _⟩
  case round =>
    obtain ⟨k, rfl, hk, hb⟩ := hrel
    have CB := Lib.hid hb
    clear hb
    by_cases hlt : k < n
    · have hnn := (HN.out : l.length = n)
      obtain ⟨b, o, rfl, hbb, hc⟩ := HV.out.resolve_left (by intro h; rw [h] at hnn; simp at hnn; omega)
      obtain ⟨b2, o2, rfl, hbb2, hc2⟩ := HU.out.resolve_left (by intro h; rw [h] at hnn; simp at hnn; omega)
      obtain ⟨p0, p1, p2, p3, p4, p5⟩ := hc k (by omega)
      obtain ⟨q0, q1, q2, q3, q4, q5⟩ := hc2 k (by omega)
      have p0' := (CB.out.cell (p := ⟨b, o + k * 6, none⟩) hbb).trans p0
      have p1' := (CB.out.cell (p := ⟨b, o + k * 6 + 1, none⟩) hbb).trans p1
      have p2' := (CB.out.cell (p := ⟨b, o + k * 6 + 2, none⟩) hbb).trans p2
      have p3' := (CB.out.cell (p := ⟨b, o + k * 6 + 3, none⟩) hbb).trans p3
      have p4' := (CB.out.cell (p := ⟨b, o + k * 6 + 4, none⟩) hbb).trans p4
      have p5' := (CB.out.cell (p := ⟨b, o + k * 6 + 5, none⟩) hbb).trans p5
      have q0' := (CB.out.cell (p := ⟨b2, o2 + k * 6, none⟩) hbb2).trans q0
      have q1' := (CB.out.cell (p := ⟨b2, o2 + k * 6 + 1, none⟩) hbb2).trans q1
      have q2' := (CB.out.cell (p := ⟨b2, o2 + k * 6 + 2, none⟩) hbb2).trans q2
      have q3' := (CB.out.cell (p := ⟨b2, o2 + k * 6 + 3, none⟩) hbb2).trans q3
      have q4' := (CB.out.cell (p := ⟨b2, o2 + k * 6 + 4, none⟩) hbb2).trans q4
      have q5' := (CB.out.cell (p := ⟨b2, o2 + k * 6 + 5, none⟩) hbb2).trans q5
      clear p0 q0 p1 q1 p2 q2 p3 q3 p4 q4 p5 q5
      clear hc hc2 hnn
      generalize l.getD k default = x at *
      have hq6 := fun w => run_equalIn_rng x w
      obtain ⟨⟨x1, x2⟩, ⟨x3, x4⟩, ⟨x5, x6⟩⟩ := x
      go_wp2_with fail
      go_quiet (fail)
      simp only [Exit.then]
      go_wp2_with fail
      refine ⟨⟨k + 1, by push_cast; rfl, by omega, ⟨CB.out.os, CB.out.tape, CB.out.output, CB.out.size, CB.out.block⟩⟩, ?_⟩
      simp [intOf]
      omega
    · obtain rfl : n = k := by omega
      go_wp2_with fail
      go_ret
      exact ⟨rfl, CB.out⟩

theorem Bs.grownB {w0 w w' : World} {l : List (Nat × Obj)} {base sz n : Nat} {e : TypeId} {v : Value} {xs : List Value} (h : Bs w0 l w) (ho : w.ownsRow base e sz v n xs) (hg : w.grownBy w' v.ownBlock) (hb : w0.heap.size ≤ base) (hl : ∀ p ∈ l, p.1 < base) : Bs w0 l w' :=
  ⟨fun p hp => (hg.block p.1 (block_lt (h.get' p hp)) (fun e => by have h1 := (World.ownsRow.lt ho _ e.symm).1; have h2 := hl p hp; omega)).trans (h.get' p hp), h.inc, h.ge, h.bel.trans (grown_below ho hg hb h.bel.size)⟩
end Go.Proofs.YtpkggjobdmchlaaGreatDoor
/- dip.After at what is in order. -/
namespace Go.Proofs.YtpkggjobdmchlaaGreatDoor
open Go.RowKit
def aftN (s : DShop) (r0 : DRng) (plan : List DDip) : Nat → DRng
  | 0 => r0
  | i + 1 => afterV s (aftN s r0 plan i) (plan.getD i default)
def rowR (r : DRng) : List Value := [.int .i64 r.top.1, .int .i64 r.top.2, .int .i64 r.foot.1, .int .i64 r.foot.2, .int .i64 r.skew.1, .int .i64 r.skew.2]
def rowsR (s : DShop) (r0 : DRng) (plan : List DDip) (k : Nat) : List Value := (List.range k).flatMap fun i => rowR (aftN s r0 plan (i + 1))
theorem rowsR_succ (s : DShop) (r0 : DRng) (plan : List DDip) (k : Nat) : rowsR s r0 plan (k + 1) = rowsR s r0 plan k ++ rowR (aftN s r0 plan (k + 1)) := by
  unfold rowsR; rw [List.range_succ, List.flatMap_append]; simp
theorem rowsR_length (s : DShop) (r0 : DRng) (plan : List DDip) : ∀ k, (rowsR s r0 plan k).length = k * 6
  | 0 => rfl
  | k + 1 => by rw [rowsR_succ, List.length_append, rowsR_length s r0 plan k]; simp [rowR]; omega
theorem rowsR_at (s : DShop) (r0 : DRng) (plan : List DDip) : ∀ (k i j : Nat), i < k → j < 6 → (rowsR s r0 plan k)[i * 6 + j]? = (rowR (aftN s r0 plan (i + 1)))[j]?
  | 0, i, j, h, _ => by omega
  | k + 1, i, j, h, hj => by
    rw [rowsR_succ]
    by_cases e : i = k
    · rw [e, List.getElem?_append_right (by rw [rowsR_length]; omega), rowsR_length]
      congr 1
      omega
    · rw [List.getElem?_append_left (by rw [rowsR_length]; omega)]
      exact rowsR_at s r0 plan k i j (by omega) hj
theorem aft_bound {s : DShop} (hs : DOk s) {t : DTap} (ht : TapOk t) {plan : List DDip} (hp : PlanOk s plan) : ∀ k : Nat, k ≤ plan.length → RngB (200000 + 50000000 * (k : Int)) (aftN s (beginV t) plan k)
  | 0, _ => by
    have h1 := ht.wick
    have h2 := ht.top
    have h3 := ht.foot
    unfold RngB aftN beginV
    simp only
    omega
  | k + 1, h => by
    have ih := aft_bound hs ht hp k (by omega)
    have hd := hp.2 k (by omega)
    have hw := hs.warm (plan.getD k default).bath.toNat (by have := hd.bath; omega)
    have g1 := grow_bound hs hd (warm := (warmOf s (plan.getD k default)).1) (by unfold warmOf; omega)
    have g2 := grow_bound hs hd (warm := (warmOf s (plan.getD k default)).2) (by unfold warmOf; omega)
    have e1 : coldV s (plan.getD k default) = growV s (plan.getD k default) (warmOf s (plan.getD k default)).1 := rfl
    have e2 : hotV s (plan.getD k default) = growV s (plan.getD k default) (warmOf s (plan.getD k default)).2 := rfl
    rw [← e1] at g1
    rw [← e2] at g2
    have l1 : -50000000 ≤ skewG (leastV s (plan.getD k default)).1 ∧ skewG (leastV s (plan.getD k default)).1 ≤ 50000000 := by unfold leastV; split <;> simp only [skewG] <;> omega
    have l2 : -50000000 ≤ skewG (mostV s (plan.getD k default)).1 ∧ skewG (mostV s (plan.getD k default)).1 ≤ 50000000 := by unfold mostV; split <;> simp only [skewG] <;> omega
    unfold RngB at ih ⊢
    rw [aftN]
    unfold afterV
    simp only
    omega
theorem ownsRow.low {w w' : World} {base sz n g : Nat} {e : TypeId} {v : Value} {xs : List Value} (h : w.ownsRow base e sz v n xs) (hb : But g w w') (hg : g < base) : w'.ownsRow base e sz v n xs := by
  refine ⟨h.1, ?_⟩
  rcases h.2 with h0 | ⟨b, cap, cur, rfl, h1, h2, h3⟩
  · exact .inl h0
  · exact .inr ⟨b, cap, cur, rfl, h1, (hb.block b (block_lt h2) (by omega)).trans h2, h3⟩
def lostT (t : DTap) (r : DRng) : Prop := min r.top.1 r.foot.1 < t.wick
def AftR (s : DShop) (t : DTap) (plan : List DDip) (w : World) : Ending → World → Prop := fun e w' => ∃ (v : Value) (E : Int), e = .returned (.tuple #[v, .int .i64 E]) ∧ Below w.heap.size w w' ∧
  ((E = 0 ∧ (∀ i, i < plan.length → ¬ lostT t (aftN s (beginV t) plan (i + 1))) ∧ RngsIn w'.heap.size w' v ((List.range plan.length).map fun i => (aftN s (beginV t) plan (i + 1)))) ∨ (E = 9 ∧ v = .slice none 0 0 ∧ ∃ i, i < plan.length ∧ lostT t (aftN s (beginV t) plan (i + 1))))
theorem infoRT' : ∃ i, Tryz.prog.info? 95 = some i ∧ i.zero = some (.agg #[.int .i64 0, .int .i64 0, .int .i64 0, .int .i64 0, .int .i64 0, .int .i64 0]) ∧ i.size = 6 ∧ i.bytes = 48 := by
  obtain ⟨i, h1, h2⟩ := Option.map_eq_some_iff.1 (show (Tryz.prog.info? 95).map (fun i => (i.zero, i.size, i.bytes)) = some (some (.agg #[.int .i64 0, .int .i64 0, .int .i64 0, .int .i64 0, .int .i64 0, .int .i64 0]), 6, 48) by kernel_rfl)
  simp only [Prod.mk.injEq] at h2
  exact ⟨i, h1, h2⟩
theorem six_ints (a b c d e f : Int) : ∀ u ∈ [Value.int .i64 a, Value.int .i64 b, Value.int .i64 c, Value.int .i64 d, Value.int .i64 e, Value.int .i64 f], u.oneCell' = true := fun u hu => by
  simp at hu
  rcases hu with rfl | rfl | rfl | rfl | rfl | rfl <;> rfl
theorem rngs_of {w : World} {base : Nat} {v : Value} {l : List DRng} {xs : List Value} (h : w.ownsRow base 95 6 v l.length xs) (hl : l.length ≤ 1000) (hx : ∀ i j, i < l.length → j < 6 → xs[i * 6 + j]? = (rowR (l.getD i default))[j]?) : RngsIn w.heap.size w v l := by
  obtain ⟨_, h⟩ := h
  rcases h with ⟨rfl, h0⟩ | ⟨g, cap, cur, rfl, hb, hg, hn, hm, hc, ht⟩
  · have : l = [] := List.eq_nil_of_length_eq_zero h0
    subst this
    exact ⟨_, _, rfl, by simp, by simp, .inl rfl⟩
  · refine ⟨_, _, rfl, by omega, hn, .inr ⟨g, 0, rfl, block_lt hg, fun i hi => ?_⟩⟩
    have key : ∀ j, j < 6 → w.cell? ⟨g, 0 + i * 6 + j, none⟩ = (rowR (l.getD i default))[j]? := by
      intro j hj
      rw [Nat.zero_add, cell_of_row w g _ _ _ _ hg, ← hx i j hi hj, ← ht, List.getElem?_take, if_pos (by omega), Array.getElem?_toList]
    exact ⟨key 0 (by omega), key 1 (by omega), key 2 (by omega), key 3 (by omega), key 4 (by omega), key 5 (by omega)⟩
set_option maxRecDepth 100000 in
set_option maxHeartbeats 16000000 in
theorem after34 {s : DShop} (hs : DOk s) {t : DTap} (ht : TapOk t) {plan : List DDip} (hp : PlanOk s plan) (v lv : Value) (w : World) (hv : DBathsIn w.heap.size w v s.baths) (hl : DipsIn w.heap.size w lv plan) :
    Calls Tryz.prog 34 #[.agg (dshopC s v), .agg (tapC t), lv] w (AftR s t plan w) := by
  obtain ⟨va, vc, rfl, -, -⟩ := sl_shape hv
  obtain ⟨la, lc, rfl, -, hlm⟩ := sl_shape hl
  have HV := Lib.hid hv
  have HL := Lib.hid hl
  have HS := Lib.hid hs
  have HT := Lib.hid ht
  have HP := Lib.hid hp
  have hp30 := hp.1
  have HBD := Lib.hid (aft_bound hs ht hp)
  have HOP := fun v lv w h1 h2 => Lib.hid (dopen_ok hs ht plan v lv w h1 h2)
  rw [planE_zero.2 hp] at HOP
  have HBG := fun w => Lib.hid (begin_ok ht w)
  obtain ⟨i0, hi0, hz0, hz1, hz2⟩ := infoRT'
  have HA0 := Lib.hid hi0
  have HA1 := Lib.hid hz0
  have HA2 := Lib.hid hz1
  have HA3 := Lib.hid hz2
  clear hv hl hs ht hp hi0 hz0 hz1 hz2
  have C0 : Hid (Bs w [(w.heap.size, .cells (dshopC s (.slice va s.baths.length vc)) 30), (w.heap.size + 1, .cells (tapC t) 34)] _) := Lib.hid (((Bs.nil w).push _ rfl (.cells (dshopC s (.slice va s.baths.length vc)) 30)).push (w.heap.size + 1) (by simp) (.cells (tapC t) 34))
  go_enter Tryz.func34, Tryz.ntmps34
  go_upto_region 1 with fail
  obtain ⟨w0, HW0⟩ : ∃ z, Hid (((w.alloc (.cells (dshopC s (.slice va s.baths.length vc)) 30)).alloc (.cells (tapC t) 34)) = z) := ⟨_, rfl⟩
  rw [HW0.out] at C0 ⊢
  go_wp2_with (first | (refine wpList_load_row rfl 30 _ rfl _ rfl _ _ _ _ (C0.out.get 0 rfl) Tryz.underlying30 rfl infoDS ?_) | (refine wpList_load_row rfl 34 _ rfl _ rfl _ _ _ _ (C0.out.get 1 rfl) Tryz.underlying34 rfl infoDT ?_))
  refine (HOP _ _ _ ((HV.out.below C0.out.bel).mono C0.out.bel.size) ((HL.out.below C0.out.bel).mono C0.out.bel.size)).out.mono ?_
  rintro e w1 ⟨rfl, hb⟩
  have C1 := Lib.hid (C0.out.call hb)
  have HZ1 : Hid (w.heap.size + 2 ≤ w1.heap.size) := C1.out.lt 1 rfl
  clear hb C0 HOP HW0
  have CP : Hid (Bs w [(w.heap.size, .cells (dshopC s (.slice va s.baths.length vc)) 30), (w.heap.size + 1, .cells (tapC t) 34), (w1.heap.size, .cells #[.int .i64 0, .int .i64 0, .int .i64 0, .int .i64 0, .int .i64 0, .int .i64 0, .int .i64 0, .int .i64 0, .slice none 0 0] 106)] _) := Lib.hid (C1.out.push w1.heap.size rfl (.cells #[.int .i64 0, .int .i64 0, .int .i64 0, .int .i64 0, .int .i64 0, .int .i64 0, .int .i64 0, .int .i64 0, .slice none 0 0] 106))
  go_upto_region 2 with (refine wpList_store_bs rfl 106 _ _ rfl CP.out 2 _ (dshopC s (.slice va s.baths.length vc)) _ _ rfl rfl rfl infoDsh rfl (by simp [Value.oneCell']) ?_; intro w2 hC; have C2 : Hid (Bs w [(w.heap.size, .cells (dshopC s (.slice va s.baths.length vc)) 30), (w.heap.size + 1, .cells (tapC t) 34), (w1.heap.size, .cells (dshopC s (.slice va s.baths.length vc)) 106)] w2) := hC; clear hC CP C1)
  go_upto_region 4 with fail
  go_wp2_with (refine wpList_load_row rfl 34 _ rfl _ rfl _ _ _ _ (C2.out.get 1 rfl) Tryz.underlying34 rfl infoDT ?_)
  refine (HBG _).out.mono ?_
  rintro e w3 ⟨rfl, hb⟩
  have C3 := Lib.hid (C2.out.call hb)
  have HZ3 : Hid (w1.heap.size + 1 ≤ w3.heap.size) := C3.out.lt 2 rfl
  clear hb C2 HBG
  have CQ : Hid (Bs w [(w.heap.size, .cells (dshopC s (.slice va s.baths.length vc)) 30), (w.heap.size + 1, .cells (tapC t) 34), (w1.heap.size, .cells (dshopC s (.slice va s.baths.length vc)) 106), (w3.heap.size, .cells #[.int .i64 0, .int .i64 0, .int .i64 0, .int .i64 0, .int .i64 0, .int .i64 0] 95)] _) := Lib.hid (C3.out.push w3.heap.size rfl (.cells #[.int .i64 0, .int .i64 0, .int .i64 0, .int .i64 0, .int .i64 0, .int .i64 0] 95))
  go_upto_region 5 with (refine wpList_store_bs rfl 95 _ _ rfl CQ.out 3 _ (rngC (beginV t)) _ _ rfl rfl rfl infoDR rfl (by simp [Value.oneCell']) ?_; intro w4 hC; have C4 : Hid (Bs w [(w.heap.size, .cells (dshopC s (.slice va s.baths.length vc)) 30), (w.heap.size + 1, .cells (tapC t) 34), (w1.heap.size, .cells (dshopC s (.slice va s.baths.length vc)) 106), (w3.heap.size, .cells (rngC (beginV t)) 95)] w4) := hC; clear hC CQ C3)
  have HZ4 : Hid (w3.heap.size + 1 ≤ w4.heap.size) := C4.out.lt 3 rfl
  go_wp2_with fail
  go_loopw [6, 26] (fun tx iv wr => ∃ (k : Nat) (tv : Value), tv = tx ∧ iv = .int .i64 k ∧ k ≤ plan.length ∧ Bs w [(w.heap.size, .cells (dshopC s (.slice va s.baths.length vc)) 30), (w.heap.size + 1, .cells (tapC t) 34), (w1.heap.size, .cells (dshopC s (.slice va s.baths.length vc)) 106), (w3.heap.size, .cells (rngC (aftN s (beginV t) plan k)) 95)] wr ∧ w3.heap.size + 1 ≤ wr.heap.size ∧ wr.ownsRow (w3.heap.size + 1) 95 6 tv k (rowsR s (beginV t) plan k) ∧ ∀ i, i < k → ¬ lostT t (aftN s (beginV t) plan (i + 1))) (fun _ iv _ => plan.length - (intOf iv).toNat)
  case atStart => exact ⟨0, _, rfl, rfl, by omega, C4.out, HZ4.out, World.ownsRow_nil _ _ 95 6, fun i h => by omega⟩
  case round =>
    obtain ⟨k, tv, rfl, rfl, hk, hbs, hle, hrow, hall⟩ := hrel
    have C5 := Lib.hid hbs
    have HLE := Lib.hid hle
    have HR := Lib.hid hrow
    have HALL := Lib.hid hall
    clear hbs hle hrow hall C4 HZ4
    by_cases hkl : k < plan.length
    · have hki : (k : Int) < (plan.length : Int) := by omega
      have HDK := Lib.hid (HP.out.2 k hkl)
      obtain ⟨b, o, he, hbl, hx0, hx1, hx2, hx3⟩ := HL.out.at' hkl
      subst he
      have HAS : Hid ((aftN s (beginV t) plan (k + 1)) = afterV s (aftN s (beginV t) plan k) (plan.getD k default)) := rfl
      have HXS := Lib.hid (rowsR_succ s (beginV t) plan k)
      have HBK : Hid (RngB 100000000000 (aftN s (beginV t) plan k)) := by
        have h := HBD.out k (by omega)
        unfold RngB at h
        unfold Hid RngB
        omega
      have HAF : ∀ w, DBathsIn w.heap.size w (.slice va s.baths.length vc) s.baths → Hid (Calls Tryz.prog 48 #[.agg (dshopC s (.slice va s.baths.length vc)), .agg (rngC (aftN s (beginV t) plan k)), .agg (dipC (plan.getD k default))] w fun e w' => e = .returned (.agg (rngC (aftN s (beginV t) plan (k + 1)))) ∧ Below w.heap.size w w') := fun w h => by
        rw [HAS.out]
        exact Lib.hid (after_ok HS.out HDK.out HBK.out (.slice va s.baths.length vc) w h)
      have hy0 := (C5.out.bel.cell (p := ⟨b, o + k * 4, none⟩) hbl).trans hx0
      have hy1 := (C5.out.bel.cell (p := ⟨b, o + k * 4 + 1, none⟩) hbl).trans hx1
      have hy2 := (C5.out.bel.cell (p := ⟨b, o + k * 4 + 2, none⟩) hbl).trans hx2
      have hy3 := (C5.out.bel.cell (p := ⟨b, o + k * 4 + 3, none⟩) hbl).trans hx3
      clear hx0 hx1 hx2 hx3 hbl HAS
      obtain ⟨A0, HAE⟩ : ∃ z, Hid ((aftN s (beginV t) plan k) = z) := ⟨_, rfl⟩
      obtain ⟨A1, HA1E⟩ : ∃ z, Hid ((aftN s (beginV t) plan (k + 1)) = z) := ⟨_, rfl⟩
      obtain ⟨dd, HDE⟩ : ∃ z, Hid (plan.getD k default = z) := ⟨_, rfl⟩
      rw [HAE.out] at C5
      rw [HAE.out, HA1E.out, HDE.out] at HAF
      rw [HDE.out] at hy0 hy1 hy2 hy3
      have CP : Hid (Bs wr [(wr.heap.size, .cells #[.int .i64 0, .int .i64 0, .int .i64 0, .bool false] 54)] _) := Lib.hid ((Bs.nil wr).push _ rfl (.cells #[.int .i64 0, .int .i64 0, .int .i64 0, .bool false] 54))
      go_upto_region 8 with (refine wpList_store_bs rfl 54 _ _ rfl CP.out 0 _ (dipC dd) _ _ rfl rfl rfl infoDD rfl (by simp [Value.oneCell']) ?_; intro w5 hC; have D6 : Hid (Bs wr [(wr.heap.size, .cells (dipC dd) 54)] w5) := hC; clear hC CP hy0 hy1 hy2 hy3)
      have C6 : Hid (Bs w [(w.heap.size, .cells (dshopC s (.slice va s.baths.length vc)) 30), (w.heap.size + 1, .cells (tapC t) 34), (w1.heap.size, .cells (dshopC s (.slice va s.baths.length vc)) 106), (w3.heap.size, .cells (rngC A0) 95)] w5) := C5.out.call D6.out.bel
      have HR6 : Hid (w5.ownsRow (w3.heap.size + 1) 95 6 tv k (rowsR s (beginV t) plan k)) := ownsRow.below HR.out D6.out.bel
      have HL6 : Hid (w3.heap.size + 1 ≤ w5.heap.size) := Nat.le_trans HLE.out D6.out.bel.size
      go_wp2_with (first | (refine wpList_load_row rfl 106 _ rfl _ rfl _ _ _ _ (C6.out.get 2 rfl) Tryz.underlying106 rfl infoDsh ?_) | (refine wpList_load_row rfl 95 _ rfl _ rfl _ _ _ _ (C6.out.get 3 rfl) Tryz.underlying95 rfl infoDR ?_) | (refine wpList_load_row rfl 54 _ rfl _ rfl _ _ _ _ (D6.out.get 0 rfl) Tryz.underlying54 rfl infoDD ?_))
      refine (HAF _ ((HV.out.below C6.out.bel).mono C6.out.bel.size)).out.mono ?_
      rintro e w6 ⟨rfl, hb⟩
      have C7 := Lib.hid (C6.out.call hb)
      have HR7 := Lib.hid (ownsRow.below HR6.out hb)
      have HL7 : Hid (w3.heap.size + 1 ≤ w6.heap.size) := Nat.le_trans HL6.out hb.size
      clear hb C6 D6 HR6 HL6 C5 HR HAF
      go_upto_region 9 with (refine wpList_mid_but rfl 95 _ _ rfl w3.heap.size 0 (rngC A1) [] (rngC A0).toList 95 (C7.out.get 3 rfl) rfl rfl rfl infoDR (by simp) (by simp [Value.oneCell']) ?_; intro w7 hg hb; have C8 : Hid (Bs w [(w.heap.size, .cells (dshopC s (.slice va s.baths.length vc)) 30), (w.heap.size + 1, .cells (tapC t) 34), (w1.heap.size, .cells (dshopC s (.slice va s.baths.length vc)) 106), (w3.heap.size, .cells (rngC A1) 95)] w7) := C7.out.but 3 rfl hb hg; have HR8 := Lib.hid (ownsRow.low HR7.out hb (by omega)); have HL8 : Hid (w3.heap.size + 1 ≤ w7.heap.size) := Nat.le_trans HL7.out hb.size; clear hg hb C7 HR7 HL7)
      have c_1 := C8.out.cell 3 rfl 0
      have c_2 := C8.out.cell 3 rfl 2
      have c_w := C8.out.cell 1 rfl 0
      by_cases hlo : min A1.top.1 A1.foot.1 < t.wick
      · have HLO := Lib.hid hlo
        go_wp2_with fail
        go_ret2
        exact ⟨_, 9, rfl, C8.out.bel, .inr ⟨rfl, rfl, k, hkl, by rw [HA1E.out]; exact HLO.out⟩⟩
      · have HLO := Lib.hid (show t.wick ≤ min A1.top.1 A1.foot.1 by omega)
        go_upto_region 11 with fail
        clear c_1 c_2 c_w hlo
        obtain ⟨ta, tc, rfl⟩ := ownsRow_slice HR8.out
        obtain ⟨b1, b2, b3, b4, b5, b6, HA6⟩ : ∃ b1 b2 b3 b4 b5 b6, Hid (A1 = ⟨(b1, b2), (b3, b4), (b5, b6)⟩) := ⟨_, _, _, _, _, _, rfl⟩
        have C9 : Hid (Bs w [(w.heap.size, .cells (dshopC s (.slice va s.baths.length vc)) 30), (w.heap.size + 1, .cells (tapC t) 34), (w1.heap.size, .cells (dshopC s (.slice va s.baths.length vc)) 106), (w3.heap.size, .cells #[.int .i64 b1, .int .i64 b2, .int .i64 b3, .int .i64 b4, .int .i64 b5, .int .i64 b6] 95)] w7) := by have h := C8.out; rw [HA6.out] at h; exact h
        go_wp2_with (first | (refine wpList_load_row rfl 95 _ rfl _ rfl _ _ _ _ (C9.out.get 3 rfl) Tryz.underlying95 rfl infoDR ?_) | (refine wpList_append_own _ rfl _ _ 85 rfl (w3.heap.size + 1) 95 i0 (.agg #[.int .i64 0, .int .i64 0, .int .i64 0, .int .i64 0, .int .i64 0, .int .i64 0]) 6 48 Tryz.underlying85 HA0.out HA1.out HA2.out HA3.out rfl (by decide) (.slice ta k tc) k (rowsR s (beginV t) plan k) rfl (HR8.out.alloc _) ⟨w7.heap.size, 0, none⟩ 1 1 [.int .i64 b1, .int .i64 b2, .int .i64 b3, .int .i64 b4, .int .i64 b5, .int .i64 b6] rfl rfl (cell_news _ _ _ _ (heap_alloc_new _ _)) (six_ints _ _ _ _ _ _) (by unfold maxLen; omega) (by omega) (by have := HL8.out; simp; omega) ?_; intro v' w9 hown hgrow _; have HO := Lib.hid hown; have C10 := Lib.hid ((C9.out.alloc _).grownB (HR8.out.alloc _) hgrow (by have := HZ1.out; have := HZ3.out; omega) (by have := HZ1.out; have := HZ3.out; intro p hp; simp at hp; rcases hp with rfl | rfl | rfl | rfl <;> simp only <;> omega)); have HLG : Hid (w3.heap.size + 1 ≤ w9.heap.size) := (by have h1 := hgrow.size; have h2 := HL8.out; unfold Hid; simp at h1; omega); clear hown hgrow C9))
        have HO2 : Hid (w9.ownsRow (w3.heap.size + 1) 95 6 v' (k + 1) (rowsR s (beginV t) plan (k + 1))) := by
          have h := HO.out
          unfold Hid
          rw [HXS.out, HA1E.out, HA6.out]
          exact h
        have C11 : Hid (Bs w [(w.heap.size, .cells (dshopC s (.slice va s.baths.length vc)) 30), (w.heap.size + 1, .cells (tapC t) 34), (w1.heap.size, .cells (dshopC s (.slice va s.baths.length vc)) 106), (w3.heap.size, .cells (rngC (aftN s (beginV t) plan (k + 1))) 95)] w9) := by
          unfold Hid
          rw [HA1E.out, HA6.out]
          exact C10.out
        refine ⟨⟨k + 1, _, rfl, by push_cast; rfl, by omega, C11.out, HLG.out, HO2.out, fun i hi => ?_⟩, ?_⟩
        · by_cases e : i = k
          · rw [e, HA1E.out]; have := HLO.out; unfold lostT; omega
          · exact HALL.out i (by omega)
        · simp [intOf]; omega
    · obtain rfl : k = plan.length := by omega
      have HTF : Hid (RngsIn wr.heap.size wr tv ((List.range plan.length).map fun i => (aftN s (beginV t) plan (i + 1)))) := by
        refine rngs_of (l := (List.range plan.length).map fun i => (aftN s (beginV t) plan (i + 1))) (by simpa using HR.out) (by simp; omega) (fun i j hi hj => ?_)
        have hi' : i < plan.length := by simpa using hi
        rw [rowsR_at s (beginV t) plan _ i j hi' hj]
        simp [List.getD_eq_getElem?_getD, hi']
      go_wp2_with fail
      go_ret2
      exact ⟨_, 0, rfl, C5.out.bel, .inl ⟨rfl, HALL.out, HTF.out⟩⟩
end Go.Proofs.YtpkggjobdmchlaaGreatDoor
/- dip.Worst at the example. -/
namespace Go.Proofs.YtpkggjobdmchlaaGreatDoor
open Go.RowKit
def exD1 : DDip := ⟨0, 7, 40, false⟩
theorem exA1 : aftN exS (beginV exTp) [exD1] 1 = ⟨(2640, 2880), (2520, 2840), (-120, -40)⟩ := by kernel_rfl
theorem exD1_ok : PlanOk exS [exD1] := ⟨by decide, fun i hi => by
  obtain rfl : i = 0 := by simp at hi; omega
  exact ⟨by decide, by decide, by decide, by decide⟩⟩
theorem exLeast : leastV exS exD1 = ((640, 520), 630) := by kernel_rfl
theorem field_b (w : World) : (Instr.field 95 (.agg (rngC (beginV exTp))) 2).run Tryz.prog w = .ok (.agg #[.int .i64 0, .int .i64 0]) w := by kernel_rfl
set_option maxRecDepth 100000 in
set_option maxHeartbeats 16000000 in
theorem worst35 (v lv : Value) (w : World) (hv : DBathsIn w.heap.size w v exS.baths) (hl : DipsIn w.heap.size w lv [exD1]) :
    Calls Tryz.prog 35 #[.agg (dshopC exS v), .agg (tapC exTp), lv, .int .i64 119] w fun e w' => ∃ u, e = .returned (.tuple #[u, .int .i64 0]) ∧ IntsIn .i64 w'.heap.size w' u [630] ∧ Below w.heap.size w w' := by
  obtain ⟨va, vc, rfl, -, -⟩ := sl_shape hv
  obtain ⟨lo, lp, lc, rfl, hlc, hlb, hlr⟩ := hl.row (by simp)
  have hx := hlr 0 (by simp)
  have HV := Lib.hid hv
  have HL := Lib.hid hl
  have hlen : exS.baths.length = 2 := rfl
  rw [hlen] at HV ⊢
  have hlen1 : [exD1].length = 1 := rfl
  rw [hlen1] at HL hlc ⊢
  have HAF := fun v lv w h1 h2 => Lib.hid (after34 exS_ok exTp_ok exD1_ok v lv w h1 h2)
  have HBG := fun w => Lib.hid (begin_ok exTp_ok w)
  have HLE : ∀ w, DBathsIn w.heap.size w (.slice va 2 vc) exS.baths → Hid (Calls Tryz.prog 64 #[.agg (dshopC exS (.slice va 2 vc)), .agg (dipC exD1)] w fun e w' => e = .returned (.tuple #[.agg #[.int .i64 640, .int .i64 520], .int .i64 630]) ∧ Below w.heap.size w w') := fun w h => by
    have h2 := least_ok exS_ok (d := exD1) (exD1_ok.2 0 (by decide)) (.slice va 2 vc) w h
    rw [exLeast] at h2
    exact Lib.hid h2
  obtain ⟨hx0, hx1, hx2, hx3⟩ := hx
  have HX0 : Hid (w.cell? ⟨lo, lp, none⟩ = some (.int .i64 0)) := hx0
  have HX1 : Hid (w.cell? ⟨lo, lp + 1, none⟩ = some (.int .i64 7)) := hx1
  have HX2 : Hid (w.cell? ⟨lo, lp + 2, none⟩ = some (.int .i64 40)) := hx2
  have HX3 : Hid (w.cell? ⟨lo, lp + 3, none⟩ = some (.bool false)) := hx3
  have HLB : Hid (lo < w.heap.size) := hlb
  clear hv hl hlr hx0 hx1 hx2 hx3 hlen hlen1 hlb
  have C0 : Hid (Bs w [(w.heap.size, .cells (dshopC exS (.slice va 2 vc)) 30), (w.heap.size + 1, .cells (tapC exTp) 34)] _) := Lib.hid (((Bs.nil w).push _ rfl (.cells (dshopC exS (.slice va 2 vc)) 30)).push (w.heap.size + 1) (by simp) (.cells (tapC exTp) 34))
  go_enter Tryz.func35, Tryz.ntmps35
  go_upto_region 1 with fail
  obtain ⟨w0, HW0⟩ : ∃ z, Hid (((w.alloc (.cells (dshopC exS (.slice va 2 vc)) 30)).alloc (.cells (tapC exTp) 34)) = z) := ⟨_, rfl⟩
  rw [HW0.out] at C0 ⊢
  go_wp2_with (first | (refine wpList_load_row rfl 30 _ rfl _ rfl _ _ _ _ (C0.out.get 0 rfl) Tryz.underlying30 rfl infoDS ?_) | (refine wpList_load_row rfl 34 _ rfl _ rfl _ _ _ _ (C0.out.get 1 rfl) Tryz.underlying34 rfl infoDT ?_))
  refine (HAF _ _ _ ((HV.out.below C0.out.bel).mono C0.out.bel.size) ((HL.out.below C0.out.bel).mono C0.out.bel.size)).out.mono ?_
  rintro e w1 ⟨u1, E, rfl, hb, (⟨rfl, -, hr⟩ | ⟨-, -, i, hi, hlo⟩)⟩
  rotate_left
  · exfalso
    obtain rfl : i = 0 := by simp at hi; omega
    rw [exA1] at hlo
    unfold lostT at hlo
    revert hlo
    decide
  have C1 := Lib.hid (C0.out.call hb)
  have hr2 : RngsIn w1.heap.size w1 u1 [⟨(2640, 2880), (2520, 2840), (-120, -40)⟩] := by
    have e : ((List.range [exD1].length).map fun i => aftN exS (beginV exTp) [exD1] (i + 1)) = [⟨(2640, 2880), (2520, 2840), (-120, -40)⟩] := by
      show [aftN exS (beginV exTp) [exD1] 1] = _
      rw [exA1]
    rw [← e]; exact hr
  obtain ⟨rb, ro, rc, rfl, hrc, hrb, hrr⟩ := hr2.row (by simp)
  obtain ⟨y0, y1, y2, y3, y4, y5⟩ := hrr 0 (by simp)
  have HY4 : Hid (w1.cell? ⟨rb, ro + 4, none⟩ = some (.int .i64 (-120))) := y4
  have HY5 : Hid (w1.cell? ⟨rb, ro + 4 + 1, none⟩ = some (.int .i64 (-40))) := y5
  have HRB : Hid (rb < w1.heap.size) := hrb
  have hlen1 : ([⟨(2640, 2880), (2520, 2840), (-120, -40)⟩] : List DRng).length = 1 := rfl
  rw [hlen1] at hrc ⊢
  clear hb C0 HAF HW0 hr hr2 hrr y0 y1 y2 y3 y4 y5 hlen1 hrb
  go_upto_region 6 with fail
  go_wp2_with (refine wpList_load_row rfl 34 _ rfl _ rfl _ _ _ _ (C1.out.get 1 rfl) Tryz.underlying34 rfl infoDT ?_)
  refine (HBG _).out.mono ?_
  rintro e w2 ⟨rfl, hb⟩
  have C2 := Lib.hid (C1.out.call hb)
  have HB12 := Lib.hid hb
  clear hb HBG C1
  have CP : Hid (Bs w2 [(w2.heap.size, .cells #[.int .i64 0, .int .i64 0] 25)] _) := Lib.hid ((Bs.nil w2).push w2.heap.size rfl (.cells #[.int .i64 0, .int .i64 0] 25))
  have hfb := field_b
  go_upto_region 7 with (refine wpList_store_bs rfl 25 _ _ rfl CP.out 0 _ #[.int .i64 0, .int .i64 0] _ _ rfl rfl rfl infoSpan rfl (by simp [Value.oneCell']) ?_; intro w3 hC; have D3 : Hid (Bs w2 [(w2.heap.size, .cells #[.int .i64 0, .int .i64 0] 25)] w3) := hC; clear hC CP)
  clear hfb
  have HB13 : Hid (Below w1.heap.size w1 w3) := HB12.out.trans (D3.out.bel.mono HB12.out.size)
  have y4 := (HB13.out.cell (p := ⟨rb, ro + 4, none⟩) HRB.out).trans HY4.out
  have y5 := (HB13.out.cell (p := ⟨rb, ro + 4 + 1, none⟩) HRB.out).trans HY5.out
  go_upto_region 9 with (refine wpList_store_bs rfl 25 _ _ rfl D3.out 0 _ #[.int .i64 (-120), .int .i64 (-40)] _ _ rfl rfl rfl infoSpan rfl (by simp [Value.oneCell']) ?_; intro w4 hC; have D4 : Hid (Bs w2 [(w2.heap.size, .cells #[.int .i64 (-120), .int .i64 (-40)] 25)] w4) := hC; clear hC D3)
  clear y4 y5
  have C4 := Lib.hid (C2.out.call D4.out.bel)
  have c_0 := D4.out.cell 0 rfl 0
  have c_1 := D4.out.cell 0 rfl 1
  go_upto_region 11 with fail
  have EP : Hid (Bs w4 [(w4.heap.size, .cells #[.int .i64 0, .int .i64 0, .int .i64 0, .int .i64 0, .int .i64 0, .int .i64 0, .int .i64 0, .int .i64 0, .slice none 0 0] 106)] _) := Lib.hid ((Bs.nil w4).push w4.heap.size rfl (.cells #[.int .i64 0, .int .i64 0, .int .i64 0, .int .i64 0, .int .i64 0, .int .i64 0, .int .i64 0, .int .i64 0, .slice none 0 0] 106))
  clear c_0 c_1
  go_upto_region 12 with (first | (refine wpList_load_row rfl 30 _ rfl _ rfl _ _ _ _ (C4.out.get 0 rfl) Tryz.underlying30 rfl infoDS ?_) | (refine wpList_store_bs rfl 106 _ _ rfl EP.out 0 _ (dshopC exS (.slice va 2 vc)) _ _ rfl rfl rfl infoDsh rfl (by simp [Value.oneCell']) ?_; intro w5 hC; have E5 : Hid (Bs w4 [(w4.heap.size, .cells (dshopC exS (.slice va 2 vc)) 106)] w5) := hC; clear hC EP))
  have C5 := Lib.hid (C4.out.call E5.out.bel)
  have HDL : Hid (w2.heap.size < w4.heap.size) := D4.out.lt 0 rfl
  have c_0 := (E5.out.bel.cell (p := ⟨w2.heap.size, 0, none⟩) HDL.out).trans (D4.out.cell 0 rfl 0)
  have c_1 := (E5.out.bel.cell (p := ⟨w2.heap.size, 1, none⟩) HDL.out).trans (D4.out.cell 0 rfl 1)
  go_upto_region 15 with (refine wpList_load_row rfl 106 _ rfl _ rfl _ _ _ _ (E5.out.get 0 rfl) Tryz.underlying106 rfl infoDsh ?_)
  clear c_0 c_1
  have HB0 : Hid (Below w5.heap.size w5 w5) := Below.refl _ _
  go_wp2_with fail
  go_loopw [8, 67] (fun tx iv wr => ∃ (k : Nat) (tv : Value), tv = tx ∧ iv = .int .i64 k ∧ k ≤ 1 ∧ Below w5.heap.size w5 wr ∧ wr.ownsRow w5.heap.size 3 1 tv k (List.replicate k (.int .i64 630))) (fun _ iv _ => 1 - (intOf iv).toNat)
  case atStart => exact ⟨0, _, rfl, rfl, by omega, HB0.out, World.ownsRow_nil _ _ 3 1⟩
  case round =>
    obtain ⟨k, tv, rfl, rfl, hk, hb, hrow⟩ := hrel
    have HB := Lib.hid hb
    have HR := Lib.hid hrow
    clear hb hrow HB0
    have HBW : Hid (Below w.heap.size w wr) := C5.out.bel.trans (HB.out.mono C5.out.bel.size)
    rcases (by omega : k = 0 ∨ k = 1) with rfl | rfl
    · have x0 := (HBW.out.cell (p := ⟨lo, lp, none⟩) HLB.out).trans HX0.out
      have x1 := (HBW.out.cell (p := ⟨lo, lp + 1, none⟩) HLB.out).trans HX1.out
      have x2 := (HBW.out.cell (p := ⟨lo, lp + 2, none⟩) HLB.out).trans HX2.out
      have x3 := (HBW.out.cell (p := ⟨lo, lp + 3, none⟩) HLB.out).trans HX3.out
      obtain ⟨ta, tc, rfl⟩ := ownsRow_slice HR.out
      obtain ⟨i0, hi0, hz0, hz1, hz2⟩ := info3'
      have HA0 := Lib.hid hi0
      have HA1 := Lib.hid hz0
      have HA2 := Lib.hid hz1
      have HA3 := Lib.hid hz2
      clear hi0 hz0 hz1 hz2
      have FP : Hid (Bs wr [(wr.heap.size, .cells #[.int .i64 0, .int .i64 0, .int .i64 0, .bool false] 54)] _) := Lib.hid ((Bs.nil wr).push wr.heap.size rfl (.cells #[.int .i64 0, .int .i64 0, .int .i64 0, .bool false] 54))
      go_upto_region 18 with (refine wpList_store_bs rfl 54 _ _ rfl FP.out 0 _ (dipC exD1) _ _ rfl rfl rfl infoDD rfl (by simp [Value.oneCell']) ?_; intro w6 hC; have F6 : Hid (Bs wr [(wr.heap.size, .cells (dipC exD1) 54)] w6) := hC; clear hC FP x0 x1 x2 x3)
      have HBW6 : Hid (Below w.heap.size w w6) := HBW.out.trans (F6.out.bel.mono HBW.out.size)
      go_wp2_with (refine wpList_load_row rfl 54 _ rfl _ rfl _ _ _ _ (F6.out.get 0 rfl) Tryz.underlying54 rfl infoDD ?_)
      refine (HLE _ ((HV.out.below HBW6.out).mono HBW6.out.size)).out.mono ?_
      rintro e w7 ⟨rfl, hb⟩
      have F7 := Lib.hid (F6.out.call hb)
      clear hb F6
      have GP : Hid (Bs w7 [(w7.heap.size, .cells #[.int .i64 0, .int .i64 0] 127)] _) := Lib.hid ((Bs.nil w7).push w7.heap.size rfl (.cells #[.int .i64 0, .int .i64 0] 127))
      go_upto_region 19 with (refine wpList_store_bs rfl 127 _ _ rfl GP.out 0 _ #[.int .i64 640, .int .i64 520] _ _ rfl rfl rfl infoGT rfl (by simp [Value.oneCell']) ?_; intro w8 hC; have G8 : Hid (Below w7.heap.size w7 w8) := hC.bel; clear hC GP)
      have HBR : Hid (Below wr.heap.size wr w8) := F7.out.bel.trans (G8.out.mono F7.out.bel.size)
      have HR8 := Lib.hid (ownsRow.below HR.out HBR.out)
      have HL8 : Hid (w5.heap.size ≤ w8.heap.size) := Nat.le_trans HB.out.size HBR.out.size
      clear F7 G8
      go_wp2_with (refine wpList_append_own _ rfl _ _ 49 rfl w5.heap.size 3 i0 (.int .i64 0) 1 8 Tryz.underlying49 HA0.out HA1.out HA2.out HA3.out rfl (by decide) (.slice ta 0 tc) 0 [] rfl (HR8.out.alloc _) ⟨w8.heap.size, 0, none⟩ 1 1 [.int .i64 630] rfl rfl (cell_news _ _ _ _ (heap_alloc_new _ _)) (one_int _) (by unfold maxLen; omega) (by omega) (by have := HL8.out; simp; omega) ?_; intro v' w9 hown hgrow _; have HO := Lib.hid hown; have HBG9 := Lib.hid (grown_below (HR8.out.alloc (.cells #[.int .i64 630] 3)) hgrow (Nat.le_refl _) (by have := HL8.out; simp; omega)); clear hown hgrow)
      refine ⟨⟨1, _, rfl, rfl, by omega, (HB.out.trans (HBR.out.mono HB.out.size)).trans (((Below.refl _ _).alloc HL8.out _).trans HBG9.out), HO.out⟩, ?_⟩
      simp [intOf]
    · have HTF : Hid (IntsIn .i64 wr.heap.size wr tv [630]) := OwnInts.ints (base := w5.heap.size) (by unfold OwnInts; exact HR.out) (by simp)
      go_wp2_with fail
      go_ret2
      exact ⟨_, rfl, HTF.out, HBW.out⟩
end Go.Proofs.YtpkggjobdmchlaaGreatDoor
