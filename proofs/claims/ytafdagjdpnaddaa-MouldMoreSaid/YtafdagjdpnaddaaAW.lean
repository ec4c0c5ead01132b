/- Awake. -/
import Derived.Test.YtafdagjdpnaddaaW27
import Derived.Test.YtafdagjdpnaddaaW22
import Derived.Test.YtafdagjdpnaddaaW23
import Derived.Test.YtafdagjdpnaddaaW21
import Derived.Test.YtafdagjdpnaddaaW15
namespace Go.Proofs.Ytafdagjdpnaddaa
open Go.RowKit
theorem within_iff_nat {N : Int} (h : ¬ within N 0 600 = false) : ∃ n : Nat, N = n ∧ n ≤ 600 := by
  have h' : within N 0 600 = true := by simpa using h
  have := within_iff.1 h'
  exact ⟨N.toNat, by omega, by omega⟩
theorem warm_any (m : Mou) (N : Int) (w : World) : Calls Try.prog 23 #[.agg #[.int .i64 m.rings, .int .i64 m.give, .int .i64 m.pl, .int .i64 m.ph, .int .i64 m.wl, .int .i64 m.wh, .int .i64 m.set, .int .i64 m.shrink, .int .i64 m.skin, .int .i64 m.fill, .int .i64 m.gap, .int .i64 m.deep], .int .i64 N] w (RetSpE (warmV m N).1 (warmV m N).2 w) := by
  by_cases h : checkE m ≠ 0
  · have e : (warmV m N).1 = [] := by unfold warmV; rw [if_pos h]
    rw [e]
    exact warm_bad m N (.inl h) w
  by_cases h2 : within N 0 600 = false
  · have e : (warmV m N).1 = [] := by unfold warmV; rw [if_neg h, if_pos h2]
    rw [e]
    exact warm_bad m N (.inr h2) w
  obtain ⟨n, rfl, hn⟩ := within_iff_nat h2
  have e : warmV m n = ((warmL m false n).zip (warmL m true n), 0) := by unfold warmV; rw [if_neg h, if_neg h2, Int.toNat_natCast]
  rw [e]
  exact warm_good m (valid_of_check (by simpa using h)) n hn w
theorem intsIn_fit (w : World) (l : List Int) (n m b : Nat) (hb : w.heap.size = b) (hl : l.length ≤ 1000) (hn : l.length = n) : IntsIn .i64 (w.alloc (.cells (ints l) 3)).heap.size (w.alloc (.cells (ints l) 3)) (.slice (some ⟨b, 0, none⟩) n m) l := by
  subst hn
  subst hb
  exact intsIn_row (heap_alloc_new _ _) hl
/-- A row is loaded by an operation that is wanted. -/
theorem wpList_load_want {P : Program} {ops : Array Oper} {rest : List Oper} {o : Oper} {a : Act} {w : World} {Q : Exit → Act → World → Prop} (hw : Region.wanted o (yielded ops a.tmps) = true) (ty : TypeId) (x : Operand) (ho : o.op = .load ty x)
    (g : Nat) (hx : a.eval x = .pointer (some ⟨g, 0, none⟩)) (t : TypeId) (cs : Array Value) (fr : Nat × Nat) (d : TypeDesc) (hg : w.heap[g]? = some (.cells cs t fr))
    (hu : P.underlying ty = some d) (hd : (match d with | .struct _ | .array _ _ => true | _ => false) = true) (hi : (P.info? ty).map (·.size) = some cs.size)
    (h : wpList P ops Q rest (a.put o.dst (.agg cs)) w) : wpList P ops Q (o :: rest) a w := by
  unfold wpList
  rw [if_pos hw]
  exact .inl (wp_load_row ty x ho g hx t cs fr d hg hu hd hi h)
theorem spansIn_fit (w : World) (l : List (Int × Int)) (cs : Array Value) (hcs : cs = (spCells l).toArray) (n m b : Nat) (hb : w.heap.size = b) (hl : l.length ≤ 1000) (hn : l.length = n) (hm : n ≤ m) : SpansIn (w.alloc (.cells cs 23)).heap.size (w.alloc (.cells cs 23)) (.slice (some ⟨b, 0, none⟩) n m) l := by
  subst hb
  subst hcs
  refine ⟨some ⟨w.heap.size, 0, none⟩, m, by rw [hn], by omega, by omega, .inr ⟨_, _, rfl, by simp, fun i hi => ?_⟩⟩
  have h := spCells_at l i hi
  have hh := heap_alloc_new w (.cells (spCells l).toArray 23)
  constructor
  · rw [Nat.zero_add]
    exact (cell_of_row _ _ _ _ _ _ hh).trans (by simpa using h.1)
  · rw [Nat.zero_add]
    exact (cell_of_row _ _ _ _ _ _ hh).trans (by simpa using h.2)
/-- What holds amid Awake's last statement. -/
structure AwW (wb : World) (v1 v3 v5 v11 : Value) (bk bx : Nat) (d33 d40 d47 d62 : Bool) (y87 y94 y101 y116 : Value) (w : World) : Prop where
  bel : Below wb.heap.size wb w
  a : IntsIn .i64 w.heap.size w v1 [424, 502]
  c : SpansIn w.heap.size w v3 [(425, 487), (575, 612)]
  s : SpansIn w.heap.size w v5 [(1, 3), (4, 5)]
  f : IntsIn .i64 w.heap.size w v11 [3]
  k : w.heap[bk]? = some (.cells #[.int .i64 1, .int .i64 2] 23)
  x : w.heap[bx]? = some (.cells #[.int .i64 100, .int .i64 150, .int .i64 250, .int .i64 300] 45)
  p1 : d33 = true → IntsIn .i64 w.heap.size w y87 [424, 502]
  p2 : d40 = true → SpansIn w.heap.size w y94 [(425, 487), (575, 612)]
  p3 : d47 = true → SpansIn w.heap.size w y101 [(1, 3), (4, 5)]
  p4 : d62 = true → IntsIn .i64 w.heap.size w y116 [3]
section
variable {wb w w' : World} {v1 v3 v5 v11 : Value} {bk bx : Nat} {d33 d40 d47 d62 : Bool} {y87 y94 y101 y116 x : Value}
theorem AwW.next (h : AwW wb v1 v3 v5 v11 bk bx d33 d40 d47 d62 y87 y94 y101 y116 w) (hb : Below w.heap.size w w') : AwW wb v1 v3 v5 v11 bk bx d33 d40 d47 d62 y87 y94 y101 y116 w' :=
  ⟨h.bel.trans (hb.mono h.bel.size), h.a.next hb, h.c.next hb, h.s.next hb, h.f.next hb, block_keep h.k hb, block_keep h.x hb, fun e => (h.p1 e).next hb, fun e => (h.p2 e).next hb, fun e => (h.p3 e).next hb, fun e => (h.p4 e).next hb⟩
theorem AwW.put87 (h : AwW wb v1 v3 v5 v11 bk bx d33 d40 d47 d62 y87 y94 y101 y116 w) (hx : IntsIn .i64 w.heap.size w x [424, 502]) : AwW wb v1 v3 v5 v11 bk bx true d40 d47 d62 x y94 y101 y116 w := ⟨h.bel, h.a, h.c, h.s, h.f, h.k, h.x, fun _ => hx, h.p2, h.p3, h.p4⟩
theorem AwW.put94 (h : AwW wb v1 v3 v5 v11 bk bx d33 d40 d47 d62 y87 y94 y101 y116 w) (hx : SpansIn w.heap.size w x [(425, 487), (575, 612)]) : AwW wb v1 v3 v5 v11 bk bx d33 true d47 d62 y87 x y101 y116 w := ⟨h.bel, h.a, h.c, h.s, h.f, h.k, h.x, h.p1, fun _ => hx, h.p3, h.p4⟩
theorem AwW.put101 (h : AwW wb v1 v3 v5 v11 bk bx d33 d40 d47 d62 y87 y94 y101 y116 w) (hx : SpansIn w.heap.size w x [(1, 3), (4, 5)]) : AwW wb v1 v3 v5 v11 bk bx d33 d40 true d62 y87 y94 x y116 w := ⟨h.bel, h.a, h.c, h.s, h.f, h.k, h.x, h.p1, h.p2, fun _ => hx, h.p4⟩
theorem AwW.put116 (h : AwW wb v1 v3 v5 v11 bk bx d33 d40 d47 d62 y87 y94 y101 y116 w) (hx : IntsIn .i64 w.heap.size w x [3]) : AwW wb v1 v3 v5 v11 bk bx d33 d40 d47 true y87 y94 y101 x w := ⟨h.bel, h.a, h.c, h.s, h.f, h.k, h.x, h.p1, h.p2, h.p3, fun _ => hx⟩
end
set_option maxRecDepth 100000 in
set_option maxHeartbeats 4000000 in
theorem awake_any (w : World) : Calls Try.prog 26 #[] w (fun e w' => e = .returned (.bool true) ∧ Below w.heap.size w w') := by
  have HB : Hid (Below w.heap.size w w) := Below.refl _ _
  go_enter Try.func26, Try.ntmps26
  go_wp2_with fail
  refine (mould35 150 _).mono ?_
  rintro e w1 ⟨rfl, hb⟩
  have HB := Lib.hid (HB.out.trans (hb.mono HB.out.size))
  clear hb
  unfold exA
  go_wp2_with fail
  have HP := Lib.hid (intsIn_fit w1 [800, 800] 2 2 w1.heap.size rfl (by simp) rfl)
  have hb : Below w1.heap.size w1 (w1.alloc (.cells (ints [800, 800]) 3)) := (Below.refl _ _).alloc (Nat.le_refl _) _
  have HB := Lib.hid (HB.out.trans (hb.mono HB.out.size))
  clear hb
  have HQ := Lib.hid (intsIn_fit (w1.alloc (.cells (ints [800, 800]) 3)) [300, 300, 300, 300, 300] 5 5 (w1.heap.size + 1) (by simp) (by simp) rfl)
  have hb : Below (w1.alloc (.cells (ints [800, 800]) 3)).heap.size (w1.alloc (.cells (ints [800, 800]) 3)) ((w1.alloc (.cells (ints [800, 800]) 3)).alloc (.cells (ints [300, 300, 300, 300, 300]) 3)) := (Below.refl _ _).alloc (Nat.le_refl _) _
  have HP := Lib.hid (HP.out.next hb)
  have HB := Lib.hid (HB.out.trans (hb.mono HB.out.size))
  clear hb
  have hc : Calls Try.prog 20 #[.agg (exA 150), .agg #[.slice (some ⟨w1.heap.size, 0, none⟩) 2 2, .slice (some ⟨w1.heap.size + 1, 0, none⟩) 5 5]] ((w1.alloc (.cells (ints [800, 800]) 3)).alloc (.cells (ints [300, 300, 300, 300, 300]) 3)) _ := cool_any (exM 150) (.slice (some ⟨w1.heap.size, 0, none⟩) 2 2) (.slice (some ⟨w1.heap.size + 1, 0, none⟩) 5 5) [800, 800] [300, 300, 300, 300, 300] _ HP.out HQ.out
  rw [ex_cool5] at hc
  refine hc.mono ?_
  rintro e w2 ⟨v1, rfl, hi, hb⟩
  clear hc HP HQ
  have HB := Lib.hid (HB.out.trans (hb.mono HB.out.size))
  have HA := Lib.hid (hi.ints (by simp))
  clear hi hb
  go_wp2_with fail
  refine (mould35 150 _).mono ?_
  rintro e w3 ⟨rfl, hb⟩
  have HB := Lib.hid (HB.out.trans (hb.mono HB.out.size))
  have HA := Lib.hid (HA.out.next hb)
  clear hb
  unfold exA
  go_wp2_with fail
  have hc : Calls Try.prog 23 #[.agg (exA 150), .int .i64 3] w3 _ := warm_any (exM 150) 3 w3
  rw [ex_warm3] at hc
  refine hc.mono ?_
  rintro e w4 ⟨v3, rfl, hi, hb⟩
  clear hc
  have HB := Lib.hid (HB.out.trans (hb.mono HB.out.size))
  have HA := Lib.hid (HA.out.next hb)
  have HW := Lib.hid (hi.spans (by simp))
  clear hi hb
  go_wp2_with fail
  refine (mould35 150 _).mono ?_
  rintro e w5 ⟨rfl, hb⟩
  have HB := Lib.hid (HB.out.trans (hb.mono HB.out.size))
  have HA := Lib.hid (HA.out.next hb)
  have HW := Lib.hid (HW.out.next hb)
  clear hb
  unfold exA
  go_wp2_with fail
  have hc : Calls Try.prog 27 #[.agg (exA 150)] w5 _ := sets_any (exM 150) w5
  rw [ex_sets] at hc
  refine hc.mono ?_
  rintro e w6 ⟨v5, rfl, hi, hb⟩
  clear hc
  have HB := Lib.hid (HB.out.trans (hb.mono HB.out.size))
  have HA := Lib.hid (HA.out.next hb)
  have HW := Lib.hid (HW.out.next hb)
  have HS := Lib.hid (hi.spans (by simp))
  clear hi hb
  go_wp2_with fail
  refine (mould35 150 _).mono ?_
  rintro e w7 ⟨rfl, hb⟩
  have HB := Lib.hid (HB.out.trans (hb.mono HB.out.size))
  have HA := Lib.hid (HA.out.next hb)
  have HW := Lib.hid (HW.out.next hb)
  have HS := Lib.hid (HS.out.next hb)
  clear hb
  unfold exA
  go_wp2_with fail
  have hc : Calls Try.prog 29 #[.agg (exA 150), .int .i64 4] w7 _ := skinM_any (exM 150) 4 w7
  rw [ex_skin4] at hc
  refine hc.mono ?_
  rintro e w8 ⟨rfl, hb⟩
  clear hc
  have HB := Lib.hid (HB.out.trans (hb.mono HB.out.size))
  have HA := Lib.hid (HA.out.next hb)
  have HW := Lib.hid (HW.out.next hb)
  have HS := Lib.hid (HS.out.next hb)
  clear hb
  go_wp2_with fail
  have HK := Lib.hid (heap_alloc_new w8 (.cells #[.int .i64 1, .int .i64 2] 23))
  have hb : Below w8.heap.size w8 (w8.alloc (.cells #[.int .i64 1, .int .i64 2] 23)) := (Below.refl _ _).alloc (Nat.le_refl _) _
  have HB := Lib.hid (HB.out.trans (hb.mono HB.out.size))
  have HA := Lib.hid (HA.out.next hb)
  have HW := Lib.hid (HW.out.next hb)
  have HS := Lib.hid (HS.out.next hb)
  clear hb
  refine (mould35 150 _).mono ?_
  rintro e w9 ⟨rfl, hb⟩
  have HB := Lib.hid (HB.out.trans (hb.mono HB.out.size))
  have HA := Lib.hid (HA.out.next hb)
  have HW := Lib.hid (HW.out.next hb)
  have HS := Lib.hid (HS.out.next hb)
  have HK := Lib.hid (block_keep HK.out hb)
  clear hb
  unfold exA
  go_wp2_with fail
  have HP := Lib.hid (intsIn_fit w9 [2, 3] 2 2 w9.heap.size rfl (by simp) rfl)
  have hb : Below w9.heap.size w9 (w9.alloc (.cells (ints [2, 3]) 3)) := (Below.refl _ _).alloc (Nat.le_refl _) _
  have HB := Lib.hid (HB.out.trans (hb.mono HB.out.size))
  have HA := Lib.hid (HA.out.next hb)
  have HW := Lib.hid (HW.out.next hb)
  have HS := Lib.hid (HS.out.next hb)
  have HK := Lib.hid (block_keep HK.out hb)
  clear hb
  have hc : Calls Try.prog 31 #[.agg (exA 150), .slice (some ⟨w9.heap.size, 0, none⟩) 2 2] (w9.alloc (.cells (ints [2, 3]) 3)) _ := hollow_any (exM 150) [2, 3] (.slice (some ⟨w9.heap.size, 0, none⟩) 2 2) _ HP.out
  rw [ex_hol23] at hc
  refine hc.mono ?_
  rintro e w10 ⟨rfl, hb⟩
  clear hc HP
  have HB := Lib.hid (HB.out.trans (hb.mono HB.out.size))
  have HA := Lib.hid (HA.out.next hb)
  have HW := Lib.hid (HW.out.next hb)
  have HS := Lib.hid (HS.out.next hb)
  have HK := Lib.hid (block_keep HK.out hb)
  clear hb
  go_wp2_with fail
  have HX := Lib.hid (heap_alloc_new w10 (.cells #[.int .i64 100, .int .i64 150, .int .i64 250, .int .i64 300] 45))
  have hb : Below w10.heap.size w10 (w10.alloc (.cells #[.int .i64 100, .int .i64 150, .int .i64 250, .int .i64 300] 45)) := (Below.refl _ _).alloc (Nat.le_refl _) _
  have HB := Lib.hid (HB.out.trans (hb.mono HB.out.size))
  have HA := Lib.hid (HA.out.next hb)
  have HW := Lib.hid (HW.out.next hb)
  have HS := Lib.hid (HS.out.next hb)
  have HK := Lib.hid (block_keep HK.out hb)
  clear hb
  refine (mould35 150 _).mono ?_
  rintro e w11 ⟨rfl, hb⟩
  have HB := Lib.hid (HB.out.trans (hb.mono HB.out.size))
  have HA := Lib.hid (HA.out.next hb)
  have HW := Lib.hid (HW.out.next hb)
  have HS := Lib.hid (HS.out.next hb)
  have HK := Lib.hid (block_keep HK.out hb)
  have HX := Lib.hid (block_keep HX.out hb)
  clear hb
  unfold exA
  go_wp2_with fail
  have hc : Calls Try.prog 33 #[.agg (exA 150)] w11 _ := few_any (exM 150) w11
  rw [ex_few150] at hc
  refine hc.mono ?_
  rintro e w12 ⟨v11, rfl, hi, hb⟩
  clear hc
  have HB := Lib.hid (HB.out.trans (hb.mono HB.out.size))
  have HA := Lib.hid (HA.out.next hb)
  have HW := Lib.hid (HW.out.next hb)
  have HS := Lib.hid (HS.out.next hb)
  have HK := Lib.hid (block_keep HK.out hb)
  have HX := Lib.hid (block_keep HX.out hb)
  have HF := Lib.hid (hi.ints (by simp))
  clear hi hb
  go_wp2_with fail
  refine (mould35 149 _).mono ?_
  rintro e w13 ⟨rfl, hb⟩
  have HB := Lib.hid (HB.out.trans (hb.mono HB.out.size))
  have HA := Lib.hid (HA.out.next hb)
  have HW := Lib.hid (HW.out.next hb)
  have HS := Lib.hid (HS.out.next hb)
  have HK := Lib.hid (block_keep HK.out hb)
  have HX := Lib.hid (block_keep HX.out hb)
  have HF := Lib.hid (HF.out.next hb)
  clear hb
  unfold exA
  go_wp2_with fail
  have hc : Calls Try.prog 33 #[.agg (exA 149)] w13 _ := few_any (exM 149) w13
  rw [ex_few149] at hc
  refine hc.mono ?_
  rintro e w14 ⟨v13, rfl, -, hb⟩
  clear hc
  have HB := Lib.hid (HB.out.trans (hb.mono HB.out.size))
  have HA := Lib.hid (HA.out.next hb)
  have HW := Lib.hid (HW.out.next hb)
  have HS := Lib.hid (HS.out.next hb)
  have HK := Lib.hid (block_keep HK.out hb)
  have HX := Lib.hid (block_keep HX.out hb)
  have HF := Lib.hid (HF.out.next hb)
  clear hb
  go_wp2_with fail
  simp only [List.append_eq, List.cons_append, List.nil_append]
  have H0 : Hid (AwW w14 v1 v3 v5 v11 w8.heap.size w10.heap.size false false false false undef undef undef undef w14.drew) := AwW.next (w := w14) ⟨Below.refl _ _, HA.out, HW.out, HS.out, HF.out, HK.out, HX.out, fun h => (by cases h), fun h => (by cases h), fun h => (by cases h), fun h => (by cases h)⟩ (Below.refl _ _).drew
  clear HA HW HS HF HK HX
  refine wp_region_inv1 (by kernel_rfl) (by kernel_rfl) [87, 94, 101, 116] (fun D y w' => AwW w14 v1 v3 v5 v11 w8.heap.size w10.heap.size (D 33) (D 40) (D 47) (D 62) (y 87) (y 94) (y 101) (y 116) w') ?_ ?FX ?hFX ?_
  · have h := H0.out
    exact ⟨h.bel, h.a, h.c, h.s, h.f, h.k, h.x, fun h => (by cases h), fun h => (by cases h), fun h => (by cases h), fun h => (by cases h)⟩
  clear H0
  case hFX =>
    intro y
    simp only [fill, List.foldl, Act.put, List.setIfInBounds_toArray, List.set]
    exact rfl
  apply obl_det
  case hrun =>
    intro D y wz hW hD R hR
    have HRR := Lib.hid hR
    clear hR
    have HW := Lib.hid hW
    clear hW hD
    go_wp2
    exact HRR.out _ HW.out
  case hnp => rfl
  case hv => first | exact ⟨_, fun _ => rfl⟩ | exact ⟨undef, fun _ => rfl⟩
  apply obl_det
  case hrun =>
    intro D y wz hW hD R hR
    have HRR := Lib.hid hR
    clear hR
    have HW := Lib.hid hW
    clear hW hD
    go_wp2
    exact HRR.out _ HW.out
  case hnp => rfl
  case hv => first | exact ⟨_, fun _ => rfl⟩ | exact ⟨undef, fun _ => rfl⟩
  apply obl_det
  case hrun =>
    intro D y wz hW hD R hR
    have HRR := Lib.hid hR
    clear hR
    have HW := Lib.hid hW
    clear hW hD
    go_wp2
    exact HRR.out _ HW.out
  case hnp => rfl
  case hv => first | exact ⟨_, fun _ => rfl⟩ | exact ⟨undef, fun _ => rfl⟩
  apply obl_det
  case hrun =>
    intro D y wz hW hD R hR
    have HRR := Lib.hid hR
    clear hR
    have HW := Lib.hid hW
    clear hW hD
    go_wp2
    exact HRR.out _ HW.out
  case hnp => rfl
  case hv => first | exact ⟨_, fun _ => rfl⟩ | exact ⟨undef, fun _ => rfl⟩
  apply obl_det
  case hrun =>
    intro D y wz hW hD R hR
    have HRR := Lib.hid hR
    clear hR
    have HW := Lib.hid hW
    clear hW hD
    go_wp2
    exact HRR.out _ HW.out
  case hnp => rfl
  case hv => first | exact ⟨_, fun _ => rfl⟩ | exact ⟨undef, fun _ => rfl⟩
  apply obl_det
  case hrun =>
    intro D y wz hW hD R hR
    have HRR := Lib.hid hR
    clear hR
    have HW := Lib.hid hW
    clear hW hD
    go_wp2
    exact HRR.out _ HW.out
  case hnp => rfl
  case hv => first | exact ⟨_, fun _ => rfl⟩ | exact ⟨undef, fun _ => rfl⟩
  apply obl_det
  case hrun =>
    intro D y wz hW hD R hR
    have HRR := Lib.hid hR
    clear hR
    have HW := Lib.hid hW
    clear hW hD
    go_wp2
    exact HRR.out _ HW.out
  case hnp => rfl
  case hv => first | exact ⟨_, fun _ => rfl⟩ | exact ⟨undef, fun _ => rfl⟩
  apply obl_det
  case hrun =>
    intro D y wz hW hD R hR
    have HRR := Lib.hid hR
    clear hR
    have HW := Lib.hid hW
    clear hW hD
    go_wp2
    exact HRR.out _ HW.out
  case hnp => rfl
  case hv => first | exact ⟨_, fun _ => rfl⟩ | exact ⟨undef, fun _ => rfl⟩
  apply obl_det
  case hrun =>
    intro D y wz hW hD R hR
    have HRR := Lib.hid hR
    clear hR
    have HW := Lib.hid hW
    clear hW hD
    go_wp2
    exact HRR.out _ HW.out
  case hnp => rfl
  case hv => first | exact ⟨_, fun _ => rfl⟩ | exact ⟨undef, fun _ => rfl⟩
  apply obl_det
  case hrun =>
    intro D y wz hW hD R hR
    have HRR := Lib.hid hR
    clear hR
    have HW := Lib.hid hW
    clear hW hD
    go_wp2
    exact HRR.out _ HW.out
  case hnp => rfl
  case hv => first | exact ⟨_, fun _ => rfl⟩ | exact ⟨undef, fun _ => rfl⟩
  apply obl_det
  case hrun =>
    intro D y wz hW hD R hR
    have HRR := Lib.hid hR
    clear hR
    have HW := Lib.hid hW
    clear hW hD
    go_wp2
    exact HRR.out _ HW.out
  case hnp => rfl
  case hv => first | exact ⟨_, fun _ => rfl⟩ | exact ⟨undef, fun _ => rfl⟩
  apply obl_det
  case hrun =>
    intro D y wz hW hD R hR
    have HRR := Lib.hid hR
    clear hR
    have HW := Lib.hid hW
    clear hW hD
    go_wp2
    exact HRR.out _ HW.out
  case hnp => rfl
  case hv => first | exact ⟨_, fun _ => rfl⟩ | exact ⟨undef, fun _ => rfl⟩
  apply obl_det
  case hrun =>
    intro D y wz hW hD R hR
    have HRR := Lib.hid hR
    clear hR
    have HW := Lib.hid hW
    clear hW hD
    go_wp2
    exact HRR.out _ HW.out
  case hnp => rfl
  case hv => first | exact ⟨_, fun _ => rfl⟩ | exact ⟨undef, fun _ => rfl⟩
  apply obl_det
  case hrun =>
    intro D y wz hW hD R hR
    have HRR := Lib.hid hR
    clear hR
    have HW := Lib.hid hW
    clear hW hD
    go_wp2
    exact HRR.out _ HW.out
  case hnp => rfl
  case hv => first | exact ⟨_, fun _ => rfl⟩ | exact ⟨undef, fun _ => rfl⟩
  apply obl_det
  case hrun =>
    intro D y wz hW hD R hR
    have HRR := Lib.hid hR
    clear hR
    have HW := Lib.hid hW
    clear hW hD
    go_wp2
    exact HRR.out _ HW.out
  case hnp => rfl
  case hv => first | exact ⟨_, fun _ => rfl⟩ | exact ⟨undef, fun _ => rfl⟩
  apply obl_det
  case hrun =>
    intro D y wz hW hD R hR
    have HRR := Lib.hid hR
    clear hR
    have HW := Lib.hid hW
    clear hW hD
    go_wp2
    exact HRR.out _ HW.out
  case hnp => rfl
  case hv => first | exact ⟨_, fun _ => rfl⟩ | exact ⟨undef, fun _ => rfl⟩
  apply obl_det
  case hrun =>
    intro D y wz hW hD R hR
    have HRR := Lib.hid hR
    clear hR
    have HW := Lib.hid hW
    clear hW hD
    go_wp2
    exact HRR.out _ HW.out
  case hnp => rfl
  case hv => first | exact ⟨_, fun _ => rfl⟩ | exact ⟨undef, fun _ => rfl⟩
  apply obl_det
  case hrun =>
    intro D y wz hW hD R hR
    have HRR := Lib.hid hR
    clear hR
    have HW := Lib.hid hW
    clear hW hD
    go_wp2
    exact HRR.out _ HW.out
  case hnp => rfl
  case hv => first | exact ⟨_, fun _ => rfl⟩ | exact ⟨undef, fun _ => rfl⟩
  apply obl_det
  case hrun =>
    intro D y wz hW hD R hR
    have HRR := Lib.hid hR
    clear hR
    have HW := Lib.hid hW
    clear hW hD
    go_wp2
    exact HRR.out _ HW.out
  case hnp => rfl
  case hv => first | exact ⟨_, fun _ => rfl⟩ | exact ⟨undef, fun _ => rfl⟩
  apply obl_det
  case hrun =>
    intro D y wz hW hD R hR
    have HRR := Lib.hid hR
    clear hR
    have HW := Lib.hid hW
    clear hW hD
    go_wp2
    exact HRR.out _ HW.out
  case hnp => rfl
  case hv => first | exact ⟨_, fun _ => rfl⟩ | exact ⟨undef, fun _ => rfl⟩
  apply obl_det
  case hrun =>
    intro D y wz hW hD R hR
    have HRR := Lib.hid hR
    clear hR
    have HW := Lib.hid hW
    clear hW hD
    go_wp2
    exact HRR.out _ HW.out
  case hnp => rfl
  case hv => first | exact ⟨_, fun _ => rfl⟩ | exact ⟨undef, fun _ => rfl⟩
  apply obl_det
  case hrun =>
    intro D y wz hW hD R hR
    have HRR := Lib.hid hR
    clear hR
    have HW := Lib.hid hW
    clear hW hD
    go_wp2
    exact HRR.out _ HW.out
  case hnp => rfl
  case hv => first | exact ⟨_, fun _ => rfl⟩ | exact ⟨undef, fun _ => rfl⟩
  apply obl_det
  case hrun =>
    intro D y wz hW hD R hR
    have HRR := Lib.hid hR
    clear hR
    have HW := Lib.hid hW
    clear hW hD
    go_wp2
    exact HRR.out _ HW.out
  case hnp => rfl
  case hv => first | exact ⟨_, fun _ => rfl⟩ | exact ⟨undef, fun _ => rfl⟩
  apply obl_det
  case hrun =>
    intro D y wz hW hD R hR
    have HRR := Lib.hid hR
    clear hR
    have HW := Lib.hid hW
    clear hW hD
    go_wp2
    exact HRR.out _ HW.out
  case hnp => rfl
  case hv => first | exact ⟨_, fun _ => rfl⟩ | exact ⟨undef, fun _ => rfl⟩
  apply obl_det
  case hrun =>
    intro D y wz hW hD R hR
    have HRR := Lib.hid hR
    clear hR
    have HW := Lib.hid hW
    clear hW hD
    go_wp2
    exact HRR.out _ HW.out
  case hnp => rfl
  case hv => first | exact ⟨_, fun _ => rfl⟩ | exact ⟨undef, fun _ => rfl⟩
  apply obl_det
  case hrun =>
    intro D y wz hW hD R hR
    have HRR := Lib.hid hR
    clear hR
    have HW := Lib.hid hW
    clear hW hD
    go_wp2
    exact HRR.out _ HW.out
  case hnp => rfl
  case hv => first | exact ⟨_, fun _ => rfl⟩ | exact ⟨undef, fun _ => rfl⟩
  apply obl_det
  case hrun =>
    intro D y wz hW hD R hR
    have HRR := Lib.hid hR
    clear hR
    have HW := Lib.hid hW
    clear hW hD
    go_wp2
    exact HRR.out _ HW.out
  case hnp => rfl
  case hv => first | exact ⟨_, fun _ => rfl⟩ | exact ⟨undef, fun _ => rfl⟩
  apply obl_det
  case hrun =>
    intro D y wz hW hD R hR
    have HRR := Lib.hid hR
    clear hR
    have HW := Lib.hid hW
    clear hW hD
    go_wp2_with fail
    refine (mould35 (-1) _).mono ?_
    rintro e w' ⟨rfl, hb⟩
    have HW2 := Lib.hid (HW.out.next hb)
    clear hb
    go_wp2_with fail
    exact HRR.out _ HW2.out
  case hnp => rfl
  case hv => first | exact ⟨_, fun _ => rfl⟩ | exact ⟨undef, fun _ => rfl⟩
  -- Check
  apply obl_det
  case hrun =>
    intro D y wz hW hD R hR
    have HRR := Lib.hid hR
    clear hR
    have HW := Lib.hid hW
    clear hW hD
    unfold exA
    go_wp2_with fail
    have hc : Calls Try.prog 18 #[.agg (exA (-1))] wz _ := check_any (exM (-1)) wz
    rw [ex_neg] at hc
    refine hc.mono ?_
    rintro e w' ⟨rfl, hb⟩
    have HW2 := Lib.hid (HW.out.next hb)
    clear hb hc
    go_wp2_with fail
    exact HRR.out _ HW2.out
  case hnp => rfl
  case hv => first | exact ⟨_, fun _ => rfl⟩ | exact ⟨undef, fun _ => rfl⟩
  apply obl_det
  case hrun =>
    intro D y wz hW hD R hR
    have HRR := Lib.hid hR
    clear hR
    have HW := Lib.hid hW
    clear hW hD
    go_wp2
    exact HRR.out _ HW.out
  case hnp => rfl
  case hv => first | exact ⟨_, fun _ => rfl⟩ | exact ⟨undef, fun _ => rfl⟩
  apply obl_det
  case hrun =>
    intro D y wz hW hD R hR
    have HRR := Lib.hid hR
    clear hR
    have HW := Lib.hid hW
    clear hW hD
    go_wp2
    exact HRR.out _ HW.out
  case hnp => rfl
  case hv => first | exact ⟨_, fun _ => rfl⟩ | exact ⟨undef, fun _ => rfl⟩
  apply obl_det
  case hrun =>
    intro D y wz hW hD R hR
    have HRR := Lib.hid hR
    clear hR
    have HW := Lib.hid hW
    clear hW hD
    go_wp2
    exact HRR.out _ HW.out
  case hnp => rfl
  case hv => first | exact ⟨_, fun _ => rfl⟩ | exact ⟨undef, fun _ => rfl⟩
  apply obl_det
  case hrun =>
    intro D y wz hW hD R hR
    have HRR := Lib.hid hR
    clear hR
    have HW := Lib.hid hW
    clear hW hD
    go_wp2
    exact HRR.out _ HW.out
  case hnp => rfl
  case hv => first | exact ⟨_, fun _ => rfl⟩ | exact ⟨undef, fun _ => rfl⟩
  apply obl_priv 87
  case hd => rfl
  case hp => rfl
  case hrun =>
    intro D y wz hW hD R hR
    have HRR := Lib.hid hR
    clear hR
    have HW := Lib.hid hW
    clear hW hD
    go_wp2_with fail
    refine HRR.out _ _ ?_
    show AwW w14 v1 v3 v5 v11 w8.heap.size w10.heap.size true (D 40) (D 47) (D 62) (.slice (some ⟨wz.heap.size, 0, none⟩) 2 2) (y 94) (y 101) (y 116) _
    exact (HW.out.next ((Below.refl _ _).alloc (Nat.le_refl _) _)).put87 (intsIn_fit wz [424, 502] 2 2 wz.heap.size rfl (by simp) rfl)
  apply obl_det
  case hrun =>
    intro D y wz hW hD R hR
    have HRR := Lib.hid hR
    clear hR
    have HW := Lib.hid hW
    have HD : Hid (D 33 = true) := hD.pre _ 33 rfl (by kernel_rfl)
    clear hW hD
    go_wp2_with fail
    refine (ints_same [424, 502] v1 (y 87) wz HW.out.a (HW.out.p1 HD.out)).mono ?_
    rintro e w' ⟨rfl, hb⟩
    have HW2 := Lib.hid (HW.out.next hb)
    clear hb
    go_wp2_with fail
    exact HRR.out _ HW2.out
  case hnp => rfl
  case hv => first | exact ⟨_, fun _ => rfl⟩ | exact ⟨undef, fun _ => rfl⟩
  apply obl_det
  case hrun =>
    intro D y wz hW hD R hR
    have HRR := Lib.hid hR
    clear hR
    have HW := Lib.hid hW
    clear hW hD
    go_wp2
    exact HRR.out _ HW.out
  case hnp => rfl
  case hv => first | exact ⟨_, fun _ => rfl⟩ | exact ⟨undef, fun _ => rfl⟩
  apply obl_det
  case hrun =>
    intro D y wz hW hD R hR
    have HRR := Lib.hid hR
    clear hR
    have HW := Lib.hid hW
    clear hW hD
    go_wp2
    exact HRR.out _ HW.out
  case hnp => rfl
  case hv => first | exact ⟨_, fun _ => rfl⟩ | exact ⟨undef, fun _ => rfl⟩
  apply obl_det
  case hrun =>
    intro D y wz hW hD R hR
    have HRR := Lib.hid hR
    clear hR
    have HW := Lib.hid hW
    clear hW hD
    go_wp2
    exact HRR.out _ HW.out
  case hnp => rfl
  case hv => first | exact ⟨_, fun _ => rfl⟩ | exact ⟨undef, fun _ => rfl⟩
  apply obl_det
  case hrun =>
    intro D y wz hW hD R hR
    have HRR := Lib.hid hR
    clear hR
    have HW := Lib.hid hW
    clear hW hD
    go_wp2_with fail
    refine (span36 425 487 _).mono ?_
    rintro e w' ⟨rfl, hb⟩
    have HW2 := Lib.hid (HW.out.next hb)
    clear hb
    go_wp2_with fail
    exact HRR.out _ HW2.out
  case hnp => rfl
  case hv => first | exact ⟨_, fun _ => rfl⟩ | exact ⟨undef, fun _ => rfl⟩
  apply obl_det
  case hrun =>
    intro D y wz hW hD R hR
    have HRR := Lib.hid hR
    clear hR
    have HW := Lib.hid hW
    clear hW hD
    go_wp2_with fail
    refine (span36 575 612 _).mono ?_
    rintro e w' ⟨rfl, hb⟩
    have HW2 := Lib.hid (HW.out.next hb)
    clear hb
    go_wp2_with fail
    exact HRR.out _ HW2.out
  case hnp => rfl
  case hv => first | exact ⟨_, fun _ => rfl⟩ | exact ⟨undef, fun _ => rfl⟩
  apply obl_priv 94
  case hd => rfl
  case hp => rfl
  case hrun =>
    intro D y wz hW hD R hR
    have HRR := Lib.hid hR
    clear hR
    have HW := Lib.hid hW
    clear hW hD
    go_wp2_with fail
    refine HRR.out _ _ ?_
    show AwW w14 v1 v3 v5 v11 w8.heap.size w10.heap.size (D 33) true (D 47) (D 62) (y 87) (.slice (some ⟨wz.heap.size, 0, none⟩) 2 2) (y 101) (y 116) _
    exact (HW.out.next ((Below.refl _ _).alloc (Nat.le_refl _) _)).put94 (spansIn_fit wz [(425, 487), (575, 612)] #[.int .i64 425, .int .i64 487, .int .i64 575, .int .i64 612] rfl 2 2 wz.heap.size rfl (by simp) rfl (by omega))
  apply obl_det
  case hrun =>
    intro D y wz hW hD R hR
    have HRR := Lib.hid hR
    clear hR
    have HW := Lib.hid hW
    have HD : Hid (D 40 = true) := hD.pre _ 40 rfl (by kernel_rfl)
    clear hW hD
    go_wp2_with fail
    refine (spans_same [(425, 487), (575, 612)] v3 (y 94) wz HW.out.c (HW.out.p2 HD.out)).mono ?_
    rintro e w' ⟨rfl, hb⟩
    have HW2 := Lib.hid (HW.out.next hb)
    clear hb
    go_wp2_with fail
    exact HRR.out _ HW2.out
  case hnp => rfl
  case hv => first | exact ⟨_, fun _ => rfl⟩ | exact ⟨undef, fun _ => rfl⟩
  apply obl_det
  case hrun =>
    intro D y wz hW hD R hR
    have HRR := Lib.hid hR
    clear hR
    have HW := Lib.hid hW
    clear hW hD
    go_wp2
    exact HRR.out _ HW.out
  case hnp => rfl
  case hv => first | exact ⟨_, fun _ => rfl⟩ | exact ⟨undef, fun _ => rfl⟩
  apply obl_det
  case hrun =>
    intro D y wz hW hD R hR
    have HRR := Lib.hid hR
    clear hR
    have HW := Lib.hid hW
    clear hW hD
    go_wp2
    exact HRR.out _ HW.out
  case hnp => rfl
  case hv => first | exact ⟨_, fun _ => rfl⟩ | exact ⟨undef, fun _ => rfl⟩
  apply obl_det
  case hrun =>
    intro D y wz hW hD R hR
    have HRR := Lib.hid hR
    clear hR
    have HW := Lib.hid hW
    clear hW hD
    go_wp2
    exact HRR.out _ HW.out
  case hnp => rfl
  case hv => first | exact ⟨_, fun _ => rfl⟩ | exact ⟨undef, fun _ => rfl⟩
  apply obl_det
  case hrun =>
    intro D y wz hW hD R hR
    have HRR := Lib.hid hR
    clear hR
    have HW := Lib.hid hW
    clear hW hD
    go_wp2_with fail
    refine (span36 1 3 _).mono ?_
    rintro e w' ⟨rfl, hb⟩
    have HW2 := Lib.hid (HW.out.next hb)
    clear hb
    go_wp2_with fail
    exact HRR.out _ HW2.out
  case hnp => rfl
  case hv => first | exact ⟨_, fun _ => rfl⟩ | exact ⟨undef, fun _ => rfl⟩
  apply obl_det
  case hrun =>
    intro D y wz hW hD R hR
    have HRR := Lib.hid hR
    clear hR
    have HW := Lib.hid hW
    clear hW hD
    go_wp2_with fail
    refine (span36 4 5 _).mono ?_
    rintro e w' ⟨rfl, hb⟩
    have HW2 := Lib.hid (HW.out.next hb)
    clear hb
    go_wp2_with fail
    exact HRR.out _ HW2.out
  case hnp => rfl
  case hv => first | exact ⟨_, fun _ => rfl⟩ | exact ⟨undef, fun _ => rfl⟩
  apply obl_priv 101
  case hd => rfl
  case hp => rfl
  case hrun =>
    intro D y wz hW hD R hR
    have HRR := Lib.hid hR
    clear hR
    have HW := Lib.hid hW
    clear hW hD
    go_wp2_with fail
    refine HRR.out _ _ ?_
    show AwW w14 v1 v3 v5 v11 w8.heap.size w10.heap.size (D 33) (D 40) true (D 62) (y 87) (y 94) (.slice (some ⟨wz.heap.size, 0, none⟩) 2 2) (y 116) _
    exact (HW.out.next ((Below.refl _ _).alloc (Nat.le_refl _) _)).put101 (spansIn_fit wz [(1, 3), (4, 5)] #[.int .i64 1, .int .i64 3, .int .i64 4, .int .i64 5] rfl 2 2 wz.heap.size rfl (by simp) rfl (by omega))
  apply obl_det
  case hrun =>
    intro D y wz hW hD R hR
    have HRR := Lib.hid hR
    clear hR
    have HW := Lib.hid hW
    have HD : Hid (D 47 = true) := hD.pre _ 47 rfl (by kernel_rfl)
    clear hW hD
    go_wp2_with fail
    refine (spans_same [(1, 3), (4, 5)] v5 (y 101) wz HW.out.s (HW.out.p3 HD.out)).mono ?_
    rintro e w' ⟨rfl, hb⟩
    have HW2 := Lib.hid (HW.out.next hb)
    clear hb
    go_wp2_with fail
    exact HRR.out _ HW2.out
  case hnp => rfl
  case hv => first | exact ⟨_, fun _ => rfl⟩ | exact ⟨undef, fun _ => rfl⟩
  apply obl_det
  case hrun =>
    intro D y wz hW hD R hR
    have HRR := Lib.hid hR
    clear hR
    have HW := Lib.hid hW
    clear hW hD
    go_wp2
    exact HRR.out _ HW.out
  case hnp => rfl
  case hv => first | exact ⟨_, fun _ => rfl⟩ | exact ⟨undef, fun _ => rfl⟩
  apply obl_det
  case hrun =>
    intro D y wz hW hD R hR
    have HRR := Lib.hid hR
    clear hR
    have HW := Lib.hid hW
    clear hW hD
    go_wp2
    exact HRR.out _ HW.out
  case hnp => rfl
  case hv => first | exact ⟨_, fun _ => rfl⟩ | exact ⟨undef, fun _ => rfl⟩
  apply obl_det
  case hrun =>
    intro D y wz hW hD R hR
    have HRR := Lib.hid hR
    clear hR
    have HW := Lib.hid hW
    clear hW hD
    refine wpList_load_want rfl 23 _ rfl _ rfl _ _ _ _ HW.out.k Try.underlying23 rfl info23 ?_
    go_simp
    exact HRR.out _ HW.out
  case hnp => rfl
  case hv => first | exact ⟨_, fun _ => rfl⟩ | exact ⟨undef, fun _ => rfl⟩
  apply obl_det
  case hrun =>
    intro D y wz hW hD R hR
    have HRR := Lib.hid hR
    clear hR
    have HW := Lib.hid hW
    clear hW hD
    go_wp2_with fail
    refine (span36 1 2 _).mono ?_
    rintro e w' ⟨rfl, hb⟩
    have HW2 := Lib.hid (HW.out.next hb)
    clear hb
    go_wp2_with fail
    exact HRR.out _ HW2.out
  case hnp => rfl
  case hv => first | exact ⟨_, fun _ => rfl⟩ | exact ⟨undef, fun _ => rfl⟩
  apply obl_det
  case hrun =>
    intro D y wz hW hD R hR
    have HRR := Lib.hid hR
    clear hR
    have HW := Lib.hid hW
    clear hW hD
    go_wp2
    exact HRR.out _ HW.out
  case hnp => rfl
  case hv => first | exact ⟨_, fun _ => rfl⟩ | exact ⟨undef, fun _ => rfl⟩
  apply obl_det
  case hrun =>
    intro D y wz hW hD R hR
    have HRR := Lib.hid hR
    clear hR
    have HW := Lib.hid hW
    clear hW hD
    go_wp2
    exact HRR.out _ HW.out
  case hnp => rfl
  case hv => first | exact ⟨_, fun _ => rfl⟩ | exact ⟨undef, fun _ => rfl⟩
  apply obl_det
  case hrun =>
    intro D y wz hW hD R hR
    have HRR := Lib.hid hR
    clear hR
    have HW := Lib.hid hW
    clear hW hD
    go_wp2
    exact HRR.out _ HW.out
  case hnp => rfl
  case hv => first | exact ⟨_, fun _ => rfl⟩ | exact ⟨undef, fun _ => rfl⟩
  apply obl_det
  case hrun =>
    intro D y wz hW hD R hR
    have HRR := Lib.hid hR
    clear hR
    have HW := Lib.hid hW
    clear hW hD
    refine wpList_load_want rfl 45 _ rfl _ rfl _ _ _ _ HW.out.x Try.underlying45 rfl info45 ?_
    go_simp
    exact HRR.out _ HW.out
  case hnp => rfl
  case hv => first | exact ⟨_, fun _ => rfl⟩ | exact ⟨undef, fun _ => rfl⟩
  apply obl_det
  case hrun =>
    intro D y wz hW hD R hR
    have HRR := Lib.hid hR
    clear hR
    have HW := Lib.hid hW
    clear hW hD
    go_wp2_with fail
    refine (end37 100 150 250 300 _).mono ?_
    rintro e w' ⟨rfl, hb⟩
    have HW2 := Lib.hid (HW.out.next hb)
    clear hb
    go_wp2_with fail
    exact HRR.out _ HW2.out
  case hnp => rfl
  case hv => first | exact ⟨_, fun _ => rfl⟩ | exact ⟨undef, fun _ => rfl⟩
  apply obl_det
  case hrun =>
    intro D y wz hW hD R hR
    have HRR := Lib.hid hR
    clear hR
    have HW := Lib.hid hW
    clear hW hD
    go_wp2
    exact HRR.out _ HW.out
  case hnp => rfl
  case hv => first | exact ⟨_, fun _ => rfl⟩ | exact ⟨undef, fun _ => rfl⟩
  apply obl_det
  case hrun =>
    intro D y wz hW hD R hR
    have HRR := Lib.hid hR
    clear hR
    have HW := Lib.hid hW
    clear hW hD
    go_wp2
    exact HRR.out _ HW.out
  case hnp => rfl
  case hv => first | exact ⟨_, fun _ => rfl⟩ | exact ⟨undef, fun _ => rfl⟩
  apply obl_det
  case hrun =>
    intro D y wz hW hD R hR
    have HRR := Lib.hid hR
    clear hR
    have HW := Lib.hid hW
    clear hW hD
    go_wp2
    exact HRR.out _ HW.out
  case hnp => rfl
  case hv => first | exact ⟨_, fun _ => rfl⟩ | exact ⟨undef, fun _ => rfl⟩
  apply obl_det
  case hrun =>
    intro D y wz hW hD R hR
    have HRR := Lib.hid hR
    clear hR
    have HW := Lib.hid hW
    clear hW hD
    go_wp2
    exact HRR.out _ HW.out
  case hnp => rfl
  case hv => first | exact ⟨_, fun _ => rfl⟩ | exact ⟨undef, fun _ => rfl⟩
  apply obl_priv 116
  case hd => rfl
  case hp => rfl
  case hrun =>
    intro D y wz hW hD R hR
    have HRR := Lib.hid hR
    clear hR
    have HW := Lib.hid hW
    clear hW hD
    go_wp2_with fail
    refine HRR.out _ _ ?_
    show AwW w14 v1 v3 v5 v11 w8.heap.size w10.heap.size (D 33) (D 40) (D 47) true (y 87) (y 94) (y 101) (.slice (some ⟨wz.heap.size, 0, none⟩) 1 1) _
    exact (HW.out.next ((Below.refl _ _).alloc (Nat.le_refl _) _)).put116 (intsIn_fit wz [3] 1 1 wz.heap.size rfl (by simp) rfl)
  apply obl_det
  case hrun =>
    intro D y wz hW hD R hR
    have HRR := Lib.hid hR
    clear hR
    have HW := Lib.hid hW
    have HD : Hid (D 62 = true) := hD.pre _ 62 rfl (by kernel_rfl)
    clear hW hD
    go_wp2_with fail
    refine (ints_same [3] v11 (y 116) wz HW.out.f (HW.out.p4 HD.out)).mono ?_
    rintro e w' ⟨rfl, hb⟩
    have HW2 := Lib.hid (HW.out.next hb)
    clear hb
    go_wp2_with fail
    exact HRR.out _ HW2.out
  case hnp => rfl
  case hv => first | exact ⟨_, fun _ => rfl⟩ | exact ⟨undef, fun _ => rfl⟩
  apply obl_det
  case hrun =>
    intro D y wz hW hD R hR
    have HRR := Lib.hid hR
    clear hR
    have HW := Lib.hid hW
    clear hW hD
    go_wp2
    exact HRR.out _ HW.out
  case hnp => rfl
  case hv => first | exact ⟨_, fun _ => rfl⟩ | exact ⟨undef, fun _ => rfl⟩
  apply obl_det
  case hrun =>
    intro D y wz hW hD R hR
    have HRR := Lib.hid hR
    clear hR
    have HW := Lib.hid hW
    clear hW hD
    go_wp2
    exact HRR.out _ HW.out
  case hnp => rfl
  case hv => first | exact ⟨_, fun _ => rfl⟩ | exact ⟨undef, fun _ => rfl⟩
  apply obl_nil
  intro D y w8 hall hW
  have HBel := Lib.hid (HB.out.trans (hW.bel.mono HB.out.size))
  clear hW hall
  go_wp2
  go_ret
  exact ⟨rfl, HBel.out⟩
end Go.Proofs.Ytafdagjdpnaddaa
