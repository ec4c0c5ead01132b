/- Awake. -/
import Derived.Test.YtaigbhhmmdfdcaaK6
namespace Go.Proofs.Ytaigbhhmmdfdcaa
open Go.RowKit
/-- A row is loaded by an operation that is wanted. -/
theorem wpList_load_want {P : Program} {ops : Array Oper} {rest : List Oper} {o : Oper} {a : Act} {w : World} {Q : Exit → Act → World → Prop} (hw : Region.wanted o (yielded ops a.tmps) = true) (ty : TypeId) (x : Operand) (ho : o.op = .load ty x)
    (g : Nat) (hx : a.eval x = .pointer (some ⟨g, 0, none⟩)) (t : TypeId) (cs : Array Value) (fr : Nat × Nat) (d : TypeDesc) (hg : w.heap[g]? = some (.cells cs t fr))
    (hu : P.underlying ty = some d) (hd : (match d with | .struct _ | .array _ _ => true | _ => false) = true) (hi : (P.info? ty).map (·.size) = some cs.size)
    (h : wpList P ops Q rest (a.put o.dst (.agg cs)) w) : wpList P ops Q (o :: rest) a w := by
  unfold wpList
  rw [if_pos hw]
  exact .inl (wp_load_row ty x ho g hx t cs fr d hg hu hd hi h)
theorem IntsIn.row2 {w : World} {g n m : Nat} {l : List Int} {cs : Array Value} (h : w.heap[g]? = some (.cells cs 3)) (hcs : cs = ints l) (hl : l.length ≤ 1000) (hn : l.length = n) : IntsIn .i64 w.heap.size w (.slice (some ⟨g, 0, none⟩) n m) l := by
  subst hcs
  exact IntsIn.row h hl hn
theorem SpansIn.row {w : World} {g n m : Nat} {l : List (Int × Int)} {cs : Array Value} (h : w.heap[g]? = some (.cells cs 51)) (hcs : cs = (spCells l).toArray) (hl : l.length ≤ 1000) (hn : l.length = n) (hm : n ≤ m) : SpansIn w.heap.size w (.slice (some ⟨g, 0, none⟩) n m) l := by
  subst hcs
  refine ⟨_, _, by rw [hn], by omega, by omega, .inr ⟨_, _, rfl, block_lt h, fun i hi => ?_⟩⟩
  have h2 := spCells_at l i hi
  constructor
  · rw [Nat.zero_add]
    exact (cell_of_row _ _ _ _ _ _ h).trans (by rw [List.getElem?_toArray]; exact h2.1)
  · rw [Nat.zero_add]
    exact (cell_of_row _ _ _ _ _ _ h).trans (by rw [List.getElem?_toArray]; exact h2.2)
theorem TableIn.two {w : World} {g : Nat} {u v : Value} {l m : List (Int × Int)} (h : w.heap[g]? = some (.cells #[u, v] 54)) (hu : SpansIn w.heap.size w u l) (hv : SpansIn w.heap.size w v m) : TableIn w.heap.size w (.slice (some ⟨g, 0, none⟩) 2 2) [l, m] := by
  refine ⟨_, _, rfl, by simp, by simp, .inr ⟨g, 0, rfl, block_lt h, fun i hi => ?_⟩⟩
  have hi3 : i = 0 ∨ i = 1 := by simp at hi; omega
  rcases hi3 with rfl | rfl
  · exact ⟨_, cell_of_row _ _ _ _ _ _ h, hu⟩
  · exact ⟨_, cell_of_row _ _ _ _ _ _ h, hv⟩
def exT : List (List (Int × Int)) := [[(22000000, 25000000), (100000, 200000), (0, 61600)], [(8800000, 10000000), (40000, 80000), (0, 25800)]]
/-- What holds amid Awake's last statement. -/
structure AwW (wb : World) (v1 v3 v5 v12 : Value) (bk : Nat) (D : Nat → Bool) (y : Tmp → Value) (w : World) : Prop where
  bel : Below wb.heap.size wb w
  a : TableIn w.heap.size w v1 exT
  m : IntsIn .i64 w.heap.size w v3 [23500000, 120000, 20800]
  l : IntsIn .i64 w.heap.size w v5 [600, 900]
  p : SpansIn w.heap.size w v12 [(875, 890), (944, 952)]
  k : w.heap[bk]? = some (.cells #[.int .i64 0, .int .i64 192] 51)
  p1 : D 35 = true → SpansIn w.heap.size w (y 109) [(22000000, 25000000), (100000, 200000), (0, 61600)]
  p2 : D 39 = true → SpansIn w.heap.size w (y 113) [(8800000, 10000000), (40000, 80000), (0, 25800)]
  p3 : D 40 = true → TableIn w.heap.size w (y 114) exT
  p4 : D 45 = true → IntsIn .i64 w.heap.size w (y 119) [23500000, 120000, 20800]
  p5 : D 50 = true → IntsIn .i64 w.heap.size w (y 124) [600, 900]
  p6 : D 70 = true → SpansIn w.heap.size w (y 144) [(875, 890), (944, 952)]
theorem AwW.next {wb w w' : World} {v1 v3 v5 v12 : Value} {bk : Nat} {D : Nat → Bool} {y : Tmp → Value} (h : AwW wb v1 v3 v5 v12 bk D y w) (hb : Below w.heap.size w w') : AwW wb v1 v3 v5 v12 bk D y w' :=
  ⟨h.bel.trans (hb.mono h.bel.size), h.a.next hb, h.m.next hb, h.l.next hb, h.p.next hb, block_keep h.k hb, fun e => (h.p1 e).next hb, fun e => (h.p2 e).next hb, fun e => (h.p3 e).next hb, fun e => (h.p4 e).next hb, fun e => (h.p5 e).next hb, fun e => (h.p6 e).next hb⟩
set_option maxRecDepth 100000 in
set_option maxHeartbeats 16000000 in
theorem awake_any (w : World) : Calls Try.prog 18 #[] w (fun e w' => e = .returned (.bool true) ∧ Below w.heap.size w w') := by
  have HB : Hid (Below w.heap.size w w) := Below.refl _ _
  go_enter Try.func18, Try.ntmps18
  go_wp2_with fail
  refine (shop36 _).mono ?_
  rintro e w1 ⟨vt1, vl1, rfl, hs, hb⟩
  have HB := Lib.hid (HB.out.trans (hb.mono HB.out.size))
  have HSH := Lib.hid hs
  clear hb hs
  go_wp2_with fail
  refine (batches37 _).mono ?_
  rintro e w2 ⟨u2, rfl, hs, hb⟩
  have HB := Lib.hid (HB.out.trans (hb.mono HB.out.size))
  have HSH := Lib.hid (HSH.out.next hb)
  have HBA := Lib.hid hs
  clear hb hs
  obtain ⟨a2, c2, rfl, hc2, -⟩ := sl_shape HBA.out
  have hc2 : 2 ≤ c2 := hc2
  go_wp2_with fail
  have hc := content_any exShop exBats vt1 vl1 (.slice a2 exBats.length c2) w2 HSH.out HBA.out
  rw [ex_content, ex_e] at hc
  refine hc.mono ?_
  rintro e w3 ⟨v1, rfl, hi, hb⟩
  clear hc
  clear HSH
  clear HBA
  have HB := Lib.hid (HB.out.trans (hb.mono HB.out.size))
  have HC := Lib.hid hi
  clear hi
  clear hb
  go_wp2_with fail
  refine (shop36 _).mono ?_
  rintro e w4 ⟨vt4, vl4, rfl, hs, hb⟩
  have HB := Lib.hid (HB.out.trans (hb.mono HB.out.size))
  have HC := Lib.hid (HC.out.next hb)
  have HSH := Lib.hid hs
  clear hb hs
  go_wp2_with fail
  refine (batches37 _).mono ?_
  rintro e w5 ⟨u5, rfl, hs, hb⟩
  have HB := Lib.hid (HB.out.trans (hb.mono HB.out.size))
  have HC := Lib.hid (HC.out.next hb)
  have HSH := Lib.hid (HSH.out.next hb)
  have HBA := Lib.hid hs
  clear hb hs
  obtain ⟨a5, c5, rfl, hc5, -⟩ := sl_shape HBA.out
  have hc5 : 2 ≤ c5 := hc5
  go_wp2_with fail
  refine (truth64 _).mono ?_
  rintro e w6 ⟨x1, x2, x3, rfl, hs, hb⟩
  have HB := Lib.hid (HB.out.trans (hb.mono HB.out.size))
  have HC := Lib.hid (HC.out.next hb)
  have HSH := Lib.hid (HSH.out.next hb)
  have HBA := Lib.hid (HBA.out.next hb)
  have HTR := Lib.hid hs
  clear hb hs
  go_wp2_with fail
  have hc := made_any exShop exBats 0 exTru vt4 vl4 (.slice a5 exBats.length c5) x1 x2 x3 w6 HSH.out HBA.out HTR.out
  rw [ex_made, ex_madeE] at hc
  refine hc.mono ?_
  rintro e w7 ⟨v3, rfl, hi, hb⟩
  clear hc
  clear HSH
  clear HBA
  clear HTR
  have HB := Lib.hid (HB.out.trans (hb.mono HB.out.size))
  have HC := Lib.hid (HC.out.next hb)
  have HM := Lib.hid hi
  clear hi
  clear hb
  go_wp2_with fail
  refine (shop36 _).mono ?_
  rintro e w8 ⟨vt8, vl8, rfl, hs, hb⟩
  have HB := Lib.hid (HB.out.trans (hb.mono HB.out.size))
  have HC := Lib.hid (HC.out.next hb)
  have HM := Lib.hid (HM.out.next hb)
  have HSH := Lib.hid hs
  clear hb hs
  go_wp2_with fail
  refine (batches37 _).mono ?_
  rintro e w9 ⟨u9, rfl, hs, hb⟩
  have HB := Lib.hid (HB.out.trans (hb.mono HB.out.size))
  have HC := Lib.hid (HC.out.next hb)
  have HM := Lib.hid (HM.out.next hb)
  have HSH := Lib.hid (HSH.out.next hb)
  have HBA := Lib.hid hs
  clear hb hs
  obtain ⟨a9, c9, rfl, hc9, -⟩ := sl_shape HBA.out
  have hc9 : 2 ≤ c9 := hc9
  go_wp2_with fail
  have hc := left_any exShop exBats vt8 vl8 (.slice a9 exBats.length c9) w9 HSH.out HBA.out
  rw [ex_left, ex_e] at hc
  refine hc.mono ?_
  rintro e w10 ⟨v5, rfl, hi, hb⟩
  clear hc
  clear HSH
  clear HBA
  have HB := Lib.hid (HB.out.trans (hb.mono HB.out.size))
  have HC := Lib.hid (HC.out.next hb)
  have HM := Lib.hid (HM.out.next hb)
  have HL := Lib.hid hi
  clear hi
  clear hb
  go_wp2_with fail
  refine (shop36 _).mono ?_
  rintro e w11 ⟨vt11, vl11, rfl, hs, hb⟩
  have HB := Lib.hid (HB.out.trans (hb.mono HB.out.size))
  have HC := Lib.hid (HC.out.next hb)
  have HM := Lib.hid (HM.out.next hb)
  have HL := Lib.hid (HL.out.next hb)
  have HSH := Lib.hid hs
  clear hb hs
  go_wp2_with fail
  refine (batches37 _).mono ?_
  rintro e w12 ⟨u12, rfl, hs, hb⟩
  have HB := Lib.hid (HB.out.trans (hb.mono HB.out.size))
  have HC := Lib.hid (HC.out.next hb)
  have HM := Lib.hid (HM.out.next hb)
  have HL := Lib.hid (HL.out.next hb)
  have HSH := Lib.hid (HSH.out.next hb)
  have HBA := Lib.hid hs
  clear hb hs
  obtain ⟨a12, c12, rfl, hc12, -⟩ := sl_shape HBA.out
  have hc12 : 2 ≤ c12 := hc12
  go_wp2_with fail
  have hc := keeps_any exShop exBats vt11 vl11 (.slice a12 exBats.length c12) w12 HSH.out HBA.out
  rw [ex_keeps] at hc
  refine hc.mono ?_
  rintro e w13 ⟨rfl, hb⟩
  clear hc
  clear HSH
  clear HBA
  have HB := Lib.hid (HB.out.trans (hb.mono HB.out.size))
  have HC := Lib.hid (HC.out.next hb)
  have HM := Lib.hid (HM.out.next hb)
  have HL := Lib.hid (HL.out.next hb)
  clear hb
  go_wp2_with fail
  refine (shop36 _).mono ?_
  rintro e w14 ⟨vt14, vl14, rfl, hs, hb⟩
  have HB := Lib.hid (HB.out.trans (hb.mono HB.out.size))
  have HC := Lib.hid (HC.out.next hb)
  have HM := Lib.hid (HM.out.next hb)
  have HL := Lib.hid (HL.out.next hb)
  have HSH := Lib.hid hs
  clear hb hs
  go_wp2_with fail
  refine (batches37 _).mono ?_
  rintro e w15 ⟨u15, rfl, hs, hb⟩
  have HB := Lib.hid (HB.out.trans (hb.mono HB.out.size))
  have HC := Lib.hid (HC.out.next hb)
  have HM := Lib.hid (HM.out.next hb)
  have HL := Lib.hid (HL.out.next hb)
  have HSH := Lib.hid (HSH.out.next hb)
  have HBA := Lib.hid hs
  clear hb hs
  obtain ⟨a15, c15, rfl, hc15, -⟩ := sl_shape HBA.out
  have hc15 : 2 ≤ c15 := hc15
  go_wp2_with fail
  have hc := take_any exShop [exBat0] 1 vt14 vl14 (.slice a15 1 c15) w15 HSH.out (HBA.out.take 1 (by decide))
  rw [ex_take] at hc
  refine hc.mono ?_
  rintro e w16 ⟨rfl, hb⟩
  clear hc
  clear HSH
  clear HBA
  have HB := Lib.hid (HB.out.trans (hb.mono HB.out.size))
  have HC := Lib.hid (HC.out.next hb)
  have HM := Lib.hid (HM.out.next hb)
  have HL := Lib.hid (HL.out.next hb)
  clear hb
  go_wp2_with fail
  have HK := Lib.hid (heap_alloc_new w16 (.cells #[.int .i64 0, .int .i64 192] 51))
  have hb : Below w16.heap.size w16 (w16.alloc (.cells #[.int .i64 0, .int .i64 192] 51)) := (Below.refl _ _).alloc (Nat.le_refl _) _
  have HB := Lib.hid (HB.out.trans (hb.mono HB.out.size))
  have HC := Lib.hid (HC.out.next hb)
  have HM := Lib.hid (HM.out.next hb)
  have HL := Lib.hid (HL.out.next hb)
  clear hb
  refine (shop36 _).mono ?_
  rintro e w17 ⟨vt17, vl17, rfl, hs, hb⟩
  have HB := Lib.hid (HB.out.trans (hb.mono HB.out.size))
  have HC := Lib.hid (HC.out.next hb)
  have HM := Lib.hid (HM.out.next hb)
  have HL := Lib.hid (HL.out.next hb)
  have HK := Lib.hid (block_keep HK.out hb)
  have HSH := Lib.hid hs
  clear hb hs
  go_wp2_with fail
  refine (batches37 _).mono ?_
  rintro e w18 ⟨u18, rfl, hs, hb⟩
  have HB := Lib.hid (HB.out.trans (hb.mono HB.out.size))
  have HC := Lib.hid (HC.out.next hb)
  have HM := Lib.hid (HM.out.next hb)
  have HL := Lib.hid (HL.out.next hb)
  have HK := Lib.hid (block_keep HK.out hb)
  have HSH := Lib.hid (HSH.out.next hb)
  have HBA := Lib.hid hs
  clear hb hs
  obtain ⟨a18, c18, rfl, hc18, -⟩ := sl_shape HBA.out
  have hc18 : 2 ≤ c18 := hc18
  go_wp2_with fail
  have hc := pull_any exShop exBats vt17 vl17 (.slice a18 exBats.length c18) w18 HSH.out HBA.out
  rw [ex_pull, ex_e] at hc
  refine hc.mono ?_
  rintro e w19 ⟨v12, rfl, hi, hb⟩
  clear hc
  clear HSH
  clear HBA
  have HB := Lib.hid (HB.out.trans (hb.mono HB.out.size))
  have HC := Lib.hid (HC.out.next hb)
  have HM := Lib.hid (HM.out.next hb)
  have HL := Lib.hid (HL.out.next hb)
  have HK := Lib.hid (block_keep HK.out hb)
  have HP := Lib.hid hi
  clear hi
  clear hb
  go_wp2_with fail
  refine (shop36 _).mono ?_
  rintro e w20 ⟨vt20, vl20, rfl, hs, hb⟩
  have HB := Lib.hid (HB.out.trans (hb.mono HB.out.size))
  have HC := Lib.hid (HC.out.next hb)
  have HM := Lib.hid (HM.out.next hb)
  have HL := Lib.hid (HL.out.next hb)
  have HK := Lib.hid (block_keep HK.out hb)
  have HP := Lib.hid (HP.out.next hb)
  have HSH := Lib.hid hs
  clear hb hs
  go_wp2_with fail
  refine (batches37 _).mono ?_
  rintro e w21 ⟨u21, rfl, hs, hb⟩
  have HB := Lib.hid (HB.out.trans (hb.mono HB.out.size))
  have HC := Lib.hid (HC.out.next hb)
  have HM := Lib.hid (HM.out.next hb)
  have HL := Lib.hid (HL.out.next hb)
  have HK := Lib.hid (block_keep HK.out hb)
  have HP := Lib.hid (HP.out.next hb)
  have HSH := Lib.hid (HSH.out.next hb)
  have HBA := Lib.hid hs
  clear hb hs
  obtain ⟨a21, c21, rfl, hc21, -⟩ := sl_shape HBA.out
  have hc21 : 2 ≤ c21 := hc21
  go_wp2_with fail
  have hc := pale_any exShop [exBat0] 1 50 vt20 vl20 (.slice a21 1 c21) w21 HSH.out (HBA.out.take 1 (by decide))
  rw [ex_pale] at hc
  refine hc.mono ?_
  rintro e w22 ⟨rfl, hb⟩
  clear hc
  clear HSH
  clear HBA
  have HB := Lib.hid (HB.out.trans (hb.mono HB.out.size))
  have HC := Lib.hid (HC.out.next hb)
  have HM := Lib.hid (HM.out.next hb)
  have HL := Lib.hid (HL.out.next hb)
  have HK := Lib.hid (block_keep HK.out hb)
  have HP := Lib.hid (HP.out.next hb)
  clear hb
  go_wp2_with fail
  refine (shop36 _).mono ?_
  rintro e w23 ⟨vt23, vl23, rfl, hs, hb⟩
  have HB := Lib.hid (HB.out.trans (hb.mono HB.out.size))
  have HC := Lib.hid (HC.out.next hb)
  have HM := Lib.hid (HM.out.next hb)
  have HL := Lib.hid (HL.out.next hb)
  have HK := Lib.hid (block_keep HK.out hb)
  have HP := Lib.hid (HP.out.next hb)
  have HSH := Lib.hid hs
  clear hb hs
  go_wp2_with fail
  refine (batches37 _).mono ?_
  rintro e w24 ⟨u24, rfl, hs, hb⟩
  have HB := Lib.hid (HB.out.trans (hb.mono HB.out.size))
  have HC := Lib.hid (HC.out.next hb)
  have HM := Lib.hid (HM.out.next hb)
  have HL := Lib.hid (HL.out.next hb)
  have HK := Lib.hid (block_keep HK.out hb)
  have HP := Lib.hid (HP.out.next hb)
  have HSH := Lib.hid (HSH.out.next hb)
  have HBA := Lib.hid hs
  clear hb hs
  obtain ⟨a24, c24, rfl, hc24, -⟩ := sl_shape HBA.out
  have hc24 : 2 ≤ c24 := hc24
  go_wp2_with fail
  have hc := pale_any exShop exBats 0 50 vt23 vl23 (.slice a24 exBats.length c24) w24 HSH.out HBA.out
  rw [ex_arg] at hc
  refine hc.mono ?_
  rintro e w25 ⟨rfl, hb⟩
  clear hc
  clear HSH
  clear HBA
  have HB := Lib.hid (HB.out.trans (hb.mono HB.out.size))
  have HC := Lib.hid (HC.out.next hb)
  have HM := Lib.hid (HM.out.next hb)
  have HL := Lib.hid (HL.out.next hb)
  have HK := Lib.hid (block_keep HK.out hb)
  have HP := Lib.hid (HP.out.next hb)
  clear hb
  go_wp2_with fail
  simp only [List.append_eq, List.cons_append, List.nil_append]
  have H0 : Hid (∀ y, AwW w25 v1 v3 v5 v12 w16.heap.size (fun _ => false) y w25.drew) := fun y => AwW.next (w := w25) ⟨Below.refl _ _, HC.out, HM.out, HL.out, HP.out, HK.out, fun h => (by cases h), fun h => (by cases h), fun h => (by cases h), fun h => (by cases h), fun h => (by cases h), fun h => (by cases h)⟩ (Below.refl _ _).drew
  clear HC HM HL HP HK
  refine wp_region_inv1 (by kernel_rfl) (by kernel_rfl) [109, 113, 114, 119, 124, 144] (fun D y w' => AwW w25 v1 v3 v5 v12 w16.heap.size D y w') (H0.out _) ?FX ?hFX ?_
  clear H0
  case hFX =>
    intro y
    simp only [fill, List.foldl, Act.put, List.setIfInBounds_toArray, List.set]
    exact rfl
  apply obl_det
  case hrun =>
    intro D y wz hW hD R hR
    have HRR := Lib.hid hR
    clear hR
    have HW := Lib.hid hW
    clear hW hD
    go_wp2
    exact HRR.out _ ⟨HW.out.bel, HW.out.a, HW.out.m, HW.out.l, HW.out.p, HW.out.k, HW.out.p1, HW.out.p2, HW.out.p3, HW.out.p4, HW.out.p5, HW.out.p6⟩
  case hnp => rfl
  case hv => first | exact ⟨_, fun _ => rfl⟩ | exact ⟨undef, fun _ => rfl⟩
  apply obl_det
  case hrun =>
    intro D y wz hW hD R hR
    have HRR := Lib.hid hR
    clear hR
    have HW := Lib.hid hW
    clear hW hD
    go_wp2
    exact HRR.out _ ⟨HW.out.bel, HW.out.a, HW.out.m, HW.out.l, HW.out.p, HW.out.k, HW.out.p1, HW.out.p2, HW.out.p3, HW.out.p4, HW.out.p5, HW.out.p6⟩
  case hnp => rfl
  case hv => first | exact ⟨_, fun _ => rfl⟩ | exact ⟨undef, fun _ => rfl⟩
  apply obl_det
  case hrun =>
    intro D y wz hW hD R hR
    have HRR := Lib.hid hR
    clear hR
    have HW := Lib.hid hW
    clear hW hD
    go_wp2
    exact HRR.out _ ⟨HW.out.bel, HW.out.a, HW.out.m, HW.out.l, HW.out.p, HW.out.k, HW.out.p1, HW.out.p2, HW.out.p3, HW.out.p4, HW.out.p5, HW.out.p6⟩
  case hnp => rfl
  case hv => first | exact ⟨_, fun _ => rfl⟩ | exact ⟨undef, fun _ => rfl⟩
  apply obl_det
  case hrun =>
    intro D y wz hW hD R hR
    have HRR := Lib.hid hR
    clear hR
    have HW := Lib.hid hW
    clear hW hD
    go_wp2
    exact HRR.out _ ⟨HW.out.bel, HW.out.a, HW.out.m, HW.out.l, HW.out.p, HW.out.k, HW.out.p1, HW.out.p2, HW.out.p3, HW.out.p4, HW.out.p5, HW.out.p6⟩
  case hnp => rfl
  case hv => first | exact ⟨_, fun _ => rfl⟩ | exact ⟨undef, fun _ => rfl⟩
  apply obl_det
  case hrun =>
    intro D y wz hW hD R hR
    have HRR := Lib.hid hR
    clear hR
    have HW := Lib.hid hW
    clear hW hD
    go_wp2
    exact HRR.out _ ⟨HW.out.bel, HW.out.a, HW.out.m, HW.out.l, HW.out.p, HW.out.k, HW.out.p1, HW.out.p2, HW.out.p3, HW.out.p4, HW.out.p5, HW.out.p6⟩
  case hnp => rfl
  case hv => first | exact ⟨_, fun _ => rfl⟩ | exact ⟨undef, fun _ => rfl⟩
  apply obl_det
  case hrun =>
    intro D y wz hW hD R hR
    have HRR := Lib.hid hR
    clear hR
    have HW := Lib.hid hW
    clear hW hD
    go_wp2
    exact HRR.out _ ⟨HW.out.bel, HW.out.a, HW.out.m, HW.out.l, HW.out.p, HW.out.k, HW.out.p1, HW.out.p2, HW.out.p3, HW.out.p4, HW.out.p5, HW.out.p6⟩
  case hnp => rfl
  case hv => first | exact ⟨_, fun _ => rfl⟩ | exact ⟨undef, fun _ => rfl⟩
  apply obl_det
  case hrun =>
    intro D y wz hW hD R hR
    have HRR := Lib.hid hR
    clear hR
    have HW := Lib.hid hW
    clear hW hD
    go_wp2
    exact HRR.out _ ⟨HW.out.bel, HW.out.a, HW.out.m, HW.out.l, HW.out.p, HW.out.k, HW.out.p1, HW.out.p2, HW.out.p3, HW.out.p4, HW.out.p5, HW.out.p6⟩
  case hnp => rfl
  case hv => first | exact ⟨_, fun _ => rfl⟩ | exact ⟨undef, fun _ => rfl⟩
  apply obl_det
  case hrun =>
    intro D y wz hW hD R hR
    have HRR := Lib.hid hR
    clear hR
    have HW := Lib.hid hW
    clear hW hD
    go_wp2
    exact HRR.out _ ⟨HW.out.bel, HW.out.a, HW.out.m, HW.out.l, HW.out.p, HW.out.k, HW.out.p1, HW.out.p2, HW.out.p3, HW.out.p4, HW.out.p5, HW.out.p6⟩
  case hnp => rfl
  case hv => first | exact ⟨_, fun _ => rfl⟩ | exact ⟨undef, fun _ => rfl⟩
  apply obl_det
  case hrun =>
    intro D y wz hW hD R hR
    have HRR := Lib.hid hR
    clear hR
    have HW := Lib.hid hW
    clear hW hD
    go_wp2
    exact HRR.out _ ⟨HW.out.bel, HW.out.a, HW.out.m, HW.out.l, HW.out.p, HW.out.k, HW.out.p1, HW.out.p2, HW.out.p3, HW.out.p4, HW.out.p5, HW.out.p6⟩
  case hnp => rfl
  case hv => first | exact ⟨_, fun _ => rfl⟩ | exact ⟨undef, fun _ => rfl⟩
  apply obl_det
  case hrun =>
    intro D y wz hW hD R hR
    have HRR := Lib.hid hR
    clear hR
    have HW := Lib.hid hW
    clear hW hD
    go_wp2
    exact HRR.out _ ⟨HW.out.bel, HW.out.a, HW.out.m, HW.out.l, HW.out.p, HW.out.k, HW.out.p1, HW.out.p2, HW.out.p3, HW.out.p4, HW.out.p5, HW.out.p6⟩
  case hnp => rfl
  case hv => first | exact ⟨_, fun _ => rfl⟩ | exact ⟨undef, fun _ => rfl⟩
  apply obl_det
  case hrun =>
    intro D y wz hW hD R hR
    have HRR := Lib.hid hR
    clear hR
    have HW := Lib.hid hW
    clear hW hD
    go_wp2
    exact HRR.out _ ⟨HW.out.bel, HW.out.a, HW.out.m, HW.out.l, HW.out.p, HW.out.k, HW.out.p1, HW.out.p2, HW.out.p3, HW.out.p4, HW.out.p5, HW.out.p6⟩
  case hnp => rfl
  case hv => first | exact ⟨_, fun _ => rfl⟩ | exact ⟨undef, fun _ => rfl⟩
  apply obl_det
  case hrun =>
    intro D y wz hW hD R hR
    have HRR := Lib.hid hR
    clear hR
    have HW := Lib.hid hW
    clear hW hD
    go_wp2
    exact HRR.out _ ⟨HW.out.bel, HW.out.a, HW.out.m, HW.out.l, HW.out.p, HW.out.k, HW.out.p1, HW.out.p2, HW.out.p3, HW.out.p4, HW.out.p5, HW.out.p6⟩
  case hnp => rfl
  case hv => first | exact ⟨_, fun _ => rfl⟩ | exact ⟨undef, fun _ => rfl⟩
  apply obl_det
  case hrun =>
    intro D y wz hW hD R hR
    have HRR := Lib.hid hR
    clear hR
    have HW := Lib.hid hW
    clear hW hD
    go_wp2
    exact HRR.out _ ⟨HW.out.bel, HW.out.a, HW.out.m, HW.out.l, HW.out.p, HW.out.k, HW.out.p1, HW.out.p2, HW.out.p3, HW.out.p4, HW.out.p5, HW.out.p6⟩
  case hnp => rfl
  case hv => first | exact ⟨_, fun _ => rfl⟩ | exact ⟨undef, fun _ => rfl⟩
  apply obl_det
  case hrun =>
    intro D y wz hW hD R hR
    have HRR := Lib.hid hR
    clear hR
    have HW := Lib.hid hW
    clear hW hD
    go_wp2
    exact HRR.out _ ⟨HW.out.bel, HW.out.a, HW.out.m, HW.out.l, HW.out.p, HW.out.k, HW.out.p1, HW.out.p2, HW.out.p3, HW.out.p4, HW.out.p5, HW.out.p6⟩
  case hnp => rfl
  case hv => first | exact ⟨_, fun _ => rfl⟩ | exact ⟨undef, fun _ => rfl⟩
  apply obl_det
  case hrun =>
    intro D y wz hW hD R hR
    have HRR := Lib.hid hR
    clear hR
    have HW := Lib.hid hW
    clear hW hD
    go_wp2
    exact HRR.out _ ⟨HW.out.bel, HW.out.a, HW.out.m, HW.out.l, HW.out.p, HW.out.k, HW.out.p1, HW.out.p2, HW.out.p3, HW.out.p4, HW.out.p5, HW.out.p6⟩
  case hnp => rfl
  case hv => first | exact ⟨_, fun _ => rfl⟩ | exact ⟨undef, fun _ => rfl⟩
  apply obl_det
  case hrun =>
    intro D y wz hW hD R hR
    have HRR := Lib.hid hR
    clear hR
    have HW := Lib.hid hW
    clear hW hD
    go_wp2
    exact HRR.out _ ⟨HW.out.bel, HW.out.a, HW.out.m, HW.out.l, HW.out.p, HW.out.k, HW.out.p1, HW.out.p2, HW.out.p3, HW.out.p4, HW.out.p5, HW.out.p6⟩
  case hnp => rfl
  case hv => first | exact ⟨_, fun _ => rfl⟩ | exact ⟨undef, fun _ => rfl⟩
  apply obl_det
  case hrun =>
    intro D y wz hW hD R hR
    have HRR := Lib.hid hR
    clear hR
    have HW := Lib.hid hW
    clear hW hD
    go_wp2
    exact HRR.out _ ⟨HW.out.bel, HW.out.a, HW.out.m, HW.out.l, HW.out.p, HW.out.k, HW.out.p1, HW.out.p2, HW.out.p3, HW.out.p4, HW.out.p5, HW.out.p6⟩
  case hnp => rfl
  case hv => first | exact ⟨_, fun _ => rfl⟩ | exact ⟨undef, fun _ => rfl⟩
  apply obl_det
  case hrun =>
    intro D y wz hW hD R hR
    have HRR := Lib.hid hR
    clear hR
    have HW := Lib.hid hW
    clear hW hD
    go_wp2
    exact HRR.out _ ⟨HW.out.bel, HW.out.a, HW.out.m, HW.out.l, HW.out.p, HW.out.k, HW.out.p1, HW.out.p2, HW.out.p3, HW.out.p4, HW.out.p5, HW.out.p6⟩
  case hnp => rfl
  case hv => first | exact ⟨_, fun _ => rfl⟩ | exact ⟨undef, fun _ => rfl⟩
  apply obl_det
  case hrun =>
    intro D y wz hW hD R hR
    have HRR := Lib.hid hR
    clear hR
    have HW := Lib.hid hW
    clear hW hD
    go_wp2
    exact HRR.out _ ⟨HW.out.bel, HW.out.a, HW.out.m, HW.out.l, HW.out.p, HW.out.k, HW.out.p1, HW.out.p2, HW.out.p3, HW.out.p4, HW.out.p5, HW.out.p6⟩
  case hnp => rfl
  case hv => first | exact ⟨_, fun _ => rfl⟩ | exact ⟨undef, fun _ => rfl⟩
  apply obl_det
  case hrun =>
    intro D y wz hW hD R hR
    have HRR := Lib.hid hR
    clear hR
    have HW := Lib.hid hW
    clear hW hD
    go_wp2
    exact HRR.out _ ⟨HW.out.bel, HW.out.a, HW.out.m, HW.out.l, HW.out.p, HW.out.k, HW.out.p1, HW.out.p2, HW.out.p3, HW.out.p4, HW.out.p5, HW.out.p6⟩
  case hnp => rfl
  case hv => first | exact ⟨_, fun _ => rfl⟩ | exact ⟨undef, fun _ => rfl⟩
  apply obl_det
  case hrun =>
    intro D y wz hW hD R hR
    have HRR := Lib.hid hR
    clear hR
    have HW := Lib.hid hW
    clear hW hD
    go_wp2
    exact HRR.out _ ⟨HW.out.bel, HW.out.a, HW.out.m, HW.out.l, HW.out.p, HW.out.k, HW.out.p1, HW.out.p2, HW.out.p3, HW.out.p4, HW.out.p5, HW.out.p6⟩
  case hnp => rfl
  case hv => first | exact ⟨_, fun _ => rfl⟩ | exact ⟨undef, fun _ => rfl⟩
  apply obl_det
  case hrun =>
    intro D y wz hW hD R hR
    have HRR := Lib.hid hR
    clear hR
    have HW := Lib.hid hW
    clear hW hD
    go_wp2
    exact HRR.out _ ⟨HW.out.bel, HW.out.a, HW.out.m, HW.out.l, HW.out.p, HW.out.k, HW.out.p1, HW.out.p2, HW.out.p3, HW.out.p4, HW.out.p5, HW.out.p6⟩
  case hnp => rfl
  case hv => first | exact ⟨_, fun _ => rfl⟩ | exact ⟨undef, fun _ => rfl⟩
  apply obl_det
  case hrun =>
    intro D y wz hW hD R hR
    have HRR := Lib.hid hR
    clear hR
    have HW := Lib.hid hW
    clear hW hD
    go_wp2
    exact HRR.out _ ⟨HW.out.bel, HW.out.a, HW.out.m, HW.out.l, HW.out.p, HW.out.k, HW.out.p1, HW.out.p2, HW.out.p3, HW.out.p4, HW.out.p5, HW.out.p6⟩
  case hnp => rfl
  case hv => first | exact ⟨_, fun _ => rfl⟩ | exact ⟨undef, fun _ => rfl⟩
  apply obl_det
  case hrun =>
    intro D y wz hW hD R hR
    have HRR := Lib.hid hR
    clear hR
    have HW := Lib.hid hW
    clear hW hD
    go_wp2
    exact HRR.out _ ⟨HW.out.bel, HW.out.a, HW.out.m, HW.out.l, HW.out.p, HW.out.k, HW.out.p1, HW.out.p2, HW.out.p3, HW.out.p4, HW.out.p5, HW.out.p6⟩
  case hnp => rfl
  case hv => first | exact ⟨_, fun _ => rfl⟩ | exact ⟨undef, fun _ => rfl⟩
  apply obl_det
  case hrun =>
    intro D y wz hW hD R hR
    have HRR := Lib.hid hR
    clear hR
    have HW := Lib.hid hW
    clear hW hD
    go_wp2
    exact HRR.out _ ⟨HW.out.bel, HW.out.a, HW.out.m, HW.out.l, HW.out.p, HW.out.k, HW.out.p1, HW.out.p2, HW.out.p3, HW.out.p4, HW.out.p5, HW.out.p6⟩
  case hnp => rfl
  case hv => first | exact ⟨_, fun _ => rfl⟩ | exact ⟨undef, fun _ => rfl⟩
  apply obl_det
  case hrun =>
    intro D y wz hW hD R hR
    have HRR := Lib.hid hR
    clear hR
    have HW := Lib.hid hW
    clear hW hD
    go_wp2
    exact HRR.out _ ⟨HW.out.bel, HW.out.a, HW.out.m, HW.out.l, HW.out.p, HW.out.k, HW.out.p1, HW.out.p2, HW.out.p3, HW.out.p4, HW.out.p5, HW.out.p6⟩
  case hnp => rfl
  case hv => first | exact ⟨_, fun _ => rfl⟩ | exact ⟨undef, fun _ => rfl⟩
  apply obl_det
  case hrun =>
    intro D y wz hW hD R hR
    have HRR := Lib.hid hR
    clear hR
    have HW := Lib.hid hW
    clear hW hD
    go_wp2
    exact HRR.out _ ⟨HW.out.bel, HW.out.a, HW.out.m, HW.out.l, HW.out.p, HW.out.k, HW.out.p1, HW.out.p2, HW.out.p3, HW.out.p4, HW.out.p5, HW.out.p6⟩
  case hnp => rfl
  case hv => first | exact ⟨_, fun _ => rfl⟩ | exact ⟨undef, fun _ => rfl⟩
  apply obl_det
  case hrun =>
    intro D y wz hW hD R hR
    have HRR := Lib.hid hR
    clear hR
    have HW := Lib.hid hW
    clear hW hD
    go_wp2
    exact HRR.out _ ⟨HW.out.bel, HW.out.a, HW.out.m, HW.out.l, HW.out.p, HW.out.k, HW.out.p1, HW.out.p2, HW.out.p3, HW.out.p4, HW.out.p5, HW.out.p6⟩
  case hnp => rfl
  case hv => first | exact ⟨_, fun _ => rfl⟩ | exact ⟨undef, fun _ => rfl⟩
  apply obl_det
  case hrun =>
    intro D y wz hW hD R hR
    have HRR := Lib.hid hR
    clear hR
    have HW := Lib.hid hW
    clear hW hD
    go_wp2
    exact HRR.out _ ⟨HW.out.bel, HW.out.a, HW.out.m, HW.out.l, HW.out.p, HW.out.k, HW.out.p1, HW.out.p2, HW.out.p3, HW.out.p4, HW.out.p5, HW.out.p6⟩
  case hnp => rfl
  case hv => first | exact ⟨_, fun _ => rfl⟩ | exact ⟨undef, fun _ => rfl⟩
  apply obl_det
  case hrun =>
    intro D y wz hW hD R hR
    have HRR := Lib.hid hR
    clear hR
    have HW := Lib.hid hW
    clear hW hD
    go_wp2
    exact HRR.out _ ⟨HW.out.bel, HW.out.a, HW.out.m, HW.out.l, HW.out.p, HW.out.k, HW.out.p1, HW.out.p2, HW.out.p3, HW.out.p4, HW.out.p5, HW.out.p6⟩
  case hnp => rfl
  case hv => first | exact ⟨_, fun _ => rfl⟩ | exact ⟨undef, fun _ => rfl⟩
  apply obl_det
  case hrun =>
    intro D y wz hW hD R hR
    have HRR := Lib.hid hR
    clear hR
    have HW := Lib.hid hW
    clear hW hD
    go_wp2
    exact HRR.out _ ⟨HW.out.bel, HW.out.a, HW.out.m, HW.out.l, HW.out.p, HW.out.k, HW.out.p1, HW.out.p2, HW.out.p3, HW.out.p4, HW.out.p5, HW.out.p6⟩
  case hnp => rfl
  case hv => first | exact ⟨_, fun _ => rfl⟩ | exact ⟨undef, fun _ => rfl⟩
  apply obl_det
  case hrun =>
    intro D y wz hW hD R hR
    have HRR := Lib.hid hR
    clear hR
    have HW := Lib.hid hW
    clear hW hD
    go_wp2
    exact HRR.out _ ⟨HW.out.bel, HW.out.a, HW.out.m, HW.out.l, HW.out.p, HW.out.k, HW.out.p1, HW.out.p2, HW.out.p3, HW.out.p4, HW.out.p5, HW.out.p6⟩
  case hnp => rfl
  case hv => first | exact ⟨_, fun _ => rfl⟩ | exact ⟨undef, fun _ => rfl⟩
  apply obl_det
  case hrun =>
    intro D y wz hW hD R hR
    have HRR := Lib.hid hR
    clear hR
    have HW := Lib.hid hW
    clear hW hD
    go_wp2_with fail
    refine (span38 22000000 25000000 _).mono ?_
    rintro e w' ⟨rfl, hb⟩
    have HW2 := Lib.hid (HW.out.next hb)
    clear hb
    go_wp2_with fail
    exact HRR.out _ ⟨HW2.out.bel, HW2.out.a, HW2.out.m, HW2.out.l, HW2.out.p, HW2.out.k, HW2.out.p1, HW2.out.p2, HW2.out.p3, HW2.out.p4, HW2.out.p5, HW2.out.p6⟩
  case hnp => rfl
  case hv => first | exact ⟨_, fun _ => rfl⟩ | exact ⟨undef, fun _ => rfl⟩
  apply obl_det
  case hrun =>
    intro D y wz hW hD R hR
    have HRR := Lib.hid hR
    clear hR
    have HW := Lib.hid hW
    clear hW hD
    go_wp2_with fail
    refine (span38 100000 200000 _).mono ?_
    rintro e w' ⟨rfl, hb⟩
    have HW2 := Lib.hid (HW.out.next hb)
    clear hb
    go_wp2_with fail
    exact HRR.out _ ⟨HW2.out.bel, HW2.out.a, HW2.out.m, HW2.out.l, HW2.out.p, HW2.out.k, HW2.out.p1, HW2.out.p2, HW2.out.p3, HW2.out.p4, HW2.out.p5, HW2.out.p6⟩
  case hnp => rfl
  case hv => first | exact ⟨_, fun _ => rfl⟩ | exact ⟨undef, fun _ => rfl⟩
  apply obl_det
  case hrun =>
    intro D y wz hW hD R hR
    have HRR := Lib.hid hR
    clear hR
    have HW := Lib.hid hW
    clear hW hD
    go_wp2_with fail
    refine (span38 0 61600 _).mono ?_
    rintro e w' ⟨rfl, hb⟩
    have HW2 := Lib.hid (HW.out.next hb)
    clear hb
    go_wp2_with fail
    exact HRR.out _ ⟨HW2.out.bel, HW2.out.a, HW2.out.m, HW2.out.l, HW2.out.p, HW2.out.k, HW2.out.p1, HW2.out.p2, HW2.out.p3, HW2.out.p4, HW2.out.p5, HW2.out.p6⟩
  case hnp => rfl
  case hv => first | exact ⟨_, fun _ => rfl⟩ | exact ⟨undef, fun _ => rfl⟩
  apply obl_priv 109
  case hd => rfl
  case hp => rfl
  case hrun =>
    intro D y wz hW hD R hR
    have HRR := Lib.hid hR
    clear hR
    have HW := Lib.hid hW
    clear hW hD
    have HN := Lib.hid (HW.out.next (ba_allocB wz (.cells #[.int .i64 22000000, .int .i64 25000000, .int .i64 100000, .int .i64 200000, .int .i64 0, .int .i64 61600] 51)))
    go_wp2_with fail
    refine HRR.out _ _ ?_
    exact ⟨HN.out.bel, HN.out.a, HN.out.m, HN.out.l, HN.out.p, HN.out.k, fun _ => SpansIn.row (heap_alloc_new _ _) rfl (by decide) rfl (by decide), HN.out.p2, HN.out.p3, HN.out.p4, HN.out.p5, HN.out.p6⟩
  apply obl_det
  case hrun =>
    intro D y wz hW hD R hR
    have HRR := Lib.hid hR
    clear hR
    have HW := Lib.hid hW
    clear hW hD
    go_wp2_with fail
    refine (span38 8800000 10000000 _).mono ?_
    rintro e w' ⟨rfl, hb⟩
    have HW2 := Lib.hid (HW.out.next hb)
    clear hb
    go_wp2_with fail
    exact HRR.out _ ⟨HW2.out.bel, HW2.out.a, HW2.out.m, HW2.out.l, HW2.out.p, HW2.out.k, HW2.out.p1, HW2.out.p2, HW2.out.p3, HW2.out.p4, HW2.out.p5, HW2.out.p6⟩
  case hnp => rfl
  case hv => first | exact ⟨_, fun _ => rfl⟩ | exact ⟨undef, fun _ => rfl⟩
  apply obl_det
  case hrun =>
    intro D y wz hW hD R hR
    have HRR := Lib.hid hR
    clear hR
    have HW := Lib.hid hW
    clear hW hD
    go_wp2_with fail
    refine (span38 40000 80000 _).mono ?_
    rintro e w' ⟨rfl, hb⟩
    have HW2 := Lib.hid (HW.out.next hb)
    clear hb
    go_wp2_with fail
    exact HRR.out _ ⟨HW2.out.bel, HW2.out.a, HW2.out.m, HW2.out.l, HW2.out.p, HW2.out.k, HW2.out.p1, HW2.out.p2, HW2.out.p3, HW2.out.p4, HW2.out.p5, HW2.out.p6⟩
  case hnp => rfl
  case hv => first | exact ⟨_, fun _ => rfl⟩ | exact ⟨undef, fun _ => rfl⟩
  apply obl_det
  case hrun =>
    intro D y wz hW hD R hR
    have HRR := Lib.hid hR
    clear hR
    have HW := Lib.hid hW
    clear hW hD
    go_wp2_with fail
    refine (span38 0 25800 _).mono ?_
    rintro e w' ⟨rfl, hb⟩
    have HW2 := Lib.hid (HW.out.next hb)
    clear hb
    go_wp2_with fail
    exact HRR.out _ ⟨HW2.out.bel, HW2.out.a, HW2.out.m, HW2.out.l, HW2.out.p, HW2.out.k, HW2.out.p1, HW2.out.p2, HW2.out.p3, HW2.out.p4, HW2.out.p5, HW2.out.p6⟩
  case hnp => rfl
  case hv => first | exact ⟨_, fun _ => rfl⟩ | exact ⟨undef, fun _ => rfl⟩
  apply obl_priv 113
  case hd => rfl
  case hp => rfl
  case hrun =>
    intro D y wz hW hD R hR
    have HRR := Lib.hid hR
    clear hR
    have HW := Lib.hid hW
    clear hW hD
    have HN := Lib.hid (HW.out.next (ba_allocB wz (.cells #[.int .i64 8800000, .int .i64 10000000, .int .i64 40000, .int .i64 80000, .int .i64 0, .int .i64 25800] 51)))
    go_wp2_with fail
    refine HRR.out _ _ ?_
    exact ⟨HN.out.bel, HN.out.a, HN.out.m, HN.out.l, HN.out.p, HN.out.k, HN.out.p1, fun _ => SpansIn.row (heap_alloc_new _ _) rfl (by decide) rfl (by decide), HN.out.p3, HN.out.p4, HN.out.p5, HN.out.p6⟩
  apply obl_priv 114
  case hd => rfl
  case hp => rfl
  case hrun =>
    intro D y wz hW hD R hR
    have HRR := Lib.hid hR
    clear hR
    have HW := Lib.hid hW
    have h1 := hW.p1 (hD.pre _ 35 rfl (by kernel_rfl))
    have h2 := hW.p2 (hD.pre _ 39 rfl (by kernel_rfl))
    clear hW hD
    obtain ⟨a1, c1, e1, -⟩ := sl_shape h1
    obtain ⟨a2, c2, e2, -⟩ := sl_shape h2
    have e1 : y 109 = .slice a1 3 c1 := e1
    have e2 : y 113 = .slice a2 3 c2 := e2
    rw [e1] at h1
    rw [e2] at h2
    have H1 := Lib.hid h1
    have H2 := Lib.hid h2
    rw [e1, e2]
    have HN := Lib.hid (HW.out.next (ba_allocB wz (.cells #[.slice a1 3 c1, .slice a2 3 c2] 54)))
    have HX : Hid (TableIn _ _ _ _) := TableIn.two (heap_alloc_new wz (.cells #[.slice a1 3 c1, .slice a2 3 c2] 54)) (H1.out.next (ba_allocB wz _)) (H2.out.next (ba_allocB wz _))
    have E1 := Lib.hid e1
    have E2 := Lib.hid e2
    clear e1 e2 h1 h2
    go_wp2_with fail
    have E1' : Hid (y 109 = .slice a1 3 c1) := E1.out
    have E2' : Hid (y 113 = .slice a2 3 c2) := E2.out
    rw [← E1'.out, ← E2'.out]
    rw [← E1'.out, ← E2'.out] at HN HX
    refine HRR.out _ _ ?_
    exact ⟨HN.out.bel, HN.out.a, HN.out.m, HN.out.l, HN.out.p, HN.out.k, HN.out.p1, HN.out.p2, fun _ => HX.out, HN.out.p4, HN.out.p5, HN.out.p6⟩
  apply obl_det
  case hrun =>
    intro D y wz hW hD R hR
    have HRR := Lib.hid hR
    clear hR
    have HW := Lib.hid hW
    have HD : Hid (D 40 = true) := hD.pre _ 40 rfl (by kernel_rfl)
    clear hW hD
    go_wp2_with fail
    refine (tables_same exT v1 (y 114) wz HW.out.a (HW.out.p3 HD.out)).mono ?_
    rintro e w' ⟨rfl, hb⟩
    have HW2 := Lib.hid (HW.out.next hb)
    clear hb
    go_wp2_with fail
    exact HRR.out _ ⟨HW2.out.bel, HW2.out.a, HW2.out.m, HW2.out.l, HW2.out.p, HW2.out.k, HW2.out.p1, HW2.out.p2, HW2.out.p3, HW2.out.p4, HW2.out.p5, HW2.out.p6⟩
  case hnp => rfl
  case hv => first | exact ⟨_, fun _ => rfl⟩ | exact ⟨undef, fun _ => rfl⟩
  apply obl_det
  case hrun =>
    intro D y wz hW hD R hR
    have HRR := Lib.hid hR
    clear hR
    have HW := Lib.hid hW
    clear hW hD
    go_wp2
    exact HRR.out _ ⟨HW.out.bel, HW.out.a, HW.out.m, HW.out.l, HW.out.p, HW.out.k, HW.out.p1, HW.out.p2, HW.out.p3, HW.out.p4, HW.out.p5, HW.out.p6⟩
  case hnp => rfl
  case hv => first | exact ⟨_, fun _ => rfl⟩ | exact ⟨undef, fun _ => rfl⟩
  apply obl_det
  case hrun =>
    intro D y wz hW hD R hR
    have HRR := Lib.hid hR
    clear hR
    have HW := Lib.hid hW
    clear hW hD
    go_wp2
    exact HRR.out _ ⟨HW.out.bel, HW.out.a, HW.out.m, HW.out.l, HW.out.p, HW.out.k, HW.out.p1, HW.out.p2, HW.out.p3, HW.out.p4, HW.out.p5, HW.out.p6⟩
  case hnp => rfl
  case hv => first | exact ⟨_, fun _ => rfl⟩ | exact ⟨undef, fun _ => rfl⟩
  apply obl_det
  case hrun =>
    intro D y wz hW hD R hR
    have HRR := Lib.hid hR
    clear hR
    have HW := Lib.hid hW
    clear hW hD
    go_wp2
    exact HRR.out _ ⟨HW.out.bel, HW.out.a, HW.out.m, HW.out.l, HW.out.p, HW.out.k, HW.out.p1, HW.out.p2, HW.out.p3, HW.out.p4, HW.out.p5, HW.out.p6⟩
  case hnp => rfl
  case hv => first | exact ⟨_, fun _ => rfl⟩ | exact ⟨undef, fun _ => rfl⟩
  apply obl_priv 119
  case hd => rfl
  case hp => rfl
  case hrun =>
    intro D y wz hW hD R hR
    have HRR := Lib.hid hR
    clear hR
    have HW := Lib.hid hW
    clear hW hD
    have HN := Lib.hid (HW.out.next (ba_allocB wz (.cells #[.int .i64 23500000, .int .i64 120000, .int .i64 20800] 3)))
    go_wp2_with fail
    refine HRR.out _ _ ?_
    exact ⟨HN.out.bel, HN.out.a, HN.out.m, HN.out.l, HN.out.p, HN.out.k, HN.out.p1, HN.out.p2, HN.out.p3, fun _ => IntsIn.row2 (heap_alloc_new _ _) rfl (by decide) rfl, HN.out.p5, HN.out.p6⟩
  apply obl_det
  case hrun =>
    intro D y wz hW hD R hR
    have HRR := Lib.hid hR
    clear hR
    have HW := Lib.hid hW
    have HD : Hid (D 45 = true) := hD.pre _ 45 rfl (by kernel_rfl)
    clear hW hD
    go_wp2_with fail
    refine (ints_same _ v3 (y 119) wz HW.out.m (HW.out.p4 HD.out)).mono ?_
    rintro e w' ⟨rfl, hb⟩
    have HW2 := Lib.hid (HW.out.next hb)
    clear hb
    go_wp2_with fail
    exact HRR.out _ ⟨HW2.out.bel, HW2.out.a, HW2.out.m, HW2.out.l, HW2.out.p, HW2.out.k, HW2.out.p1, HW2.out.p2, HW2.out.p3, HW2.out.p4, HW2.out.p5, HW2.out.p6⟩
  case hnp => rfl
  case hv => first | exact ⟨_, fun _ => rfl⟩ | exact ⟨undef, fun _ => rfl⟩
  apply obl_det
  case hrun =>
    intro D y wz hW hD R hR
    have HRR := Lib.hid hR
    clear hR
    have HW := Lib.hid hW
    clear hW hD
    go_wp2
    exact HRR.out _ ⟨HW.out.bel, HW.out.a, HW.out.m, HW.out.l, HW.out.p, HW.out.k, HW.out.p1, HW.out.p2, HW.out.p3, HW.out.p4, HW.out.p5, HW.out.p6⟩
  case hnp => rfl
  case hv => first | exact ⟨_, fun _ => rfl⟩ | exact ⟨undef, fun _ => rfl⟩
  apply obl_det
  case hrun =>
    intro D y wz hW hD R hR
    have HRR := Lib.hid hR
    clear hR
    have HW := Lib.hid hW
    clear hW hD
    go_wp2
    exact HRR.out _ ⟨HW.out.bel, HW.out.a, HW.out.m, HW.out.l, HW.out.p, HW.out.k, HW.out.p1, HW.out.p2, HW.out.p3, HW.out.p4, HW.out.p5, HW.out.p6⟩
  case hnp => rfl
  case hv => first | exact ⟨_, fun _ => rfl⟩ | exact ⟨undef, fun _ => rfl⟩
  apply obl_det
  case hrun =>
    intro D y wz hW hD R hR
    have HRR := Lib.hid hR
    clear hR
    have HW := Lib.hid hW
    clear hW hD
    go_wp2
    exact HRR.out _ ⟨HW.out.bel, HW.out.a, HW.out.m, HW.out.l, HW.out.p, HW.out.k, HW.out.p1, HW.out.p2, HW.out.p3, HW.out.p4, HW.out.p5, HW.out.p6⟩
  case hnp => rfl
  case hv => first | exact ⟨_, fun _ => rfl⟩ | exact ⟨undef, fun _ => rfl⟩
  apply obl_priv 124
  case hd => rfl
  case hp => rfl
  case hrun =>
    intro D y wz hW hD R hR
    have HRR := Lib.hid hR
    clear hR
    have HW := Lib.hid hW
    clear hW hD
    have HN := Lib.hid (HW.out.next (ba_allocB wz (.cells #[.int .i64 600, .int .i64 900] 3)))
    go_wp2_with fail
    refine HRR.out _ _ ?_
    exact ⟨HN.out.bel, HN.out.a, HN.out.m, HN.out.l, HN.out.p, HN.out.k, HN.out.p1, HN.out.p2, HN.out.p3, HN.out.p4, fun _ => IntsIn.row2 (heap_alloc_new _ _) rfl (by decide) rfl, HN.out.p6⟩
  apply obl_det
  case hrun =>
    intro D y wz hW hD R hR
    have HRR := Lib.hid hR
    clear hR
    have HW := Lib.hid hW
    have HD : Hid (D 50 = true) := hD.pre _ 50 rfl (by kernel_rfl)
    clear hW hD
    go_wp2_with fail
    refine (ints_same _ v5 (y 124) wz HW.out.l (HW.out.p5 HD.out)).mono ?_
    rintro e w' ⟨rfl, hb⟩
    have HW2 := Lib.hid (HW.out.next hb)
    clear hb
    go_wp2_with fail
    exact HRR.out _ ⟨HW2.out.bel, HW2.out.a, HW2.out.m, HW2.out.l, HW2.out.p, HW2.out.k, HW2.out.p1, HW2.out.p2, HW2.out.p3, HW2.out.p4, HW2.out.p5, HW2.out.p6⟩
  case hnp => rfl
  case hv => first | exact ⟨_, fun _ => rfl⟩ | exact ⟨undef, fun _ => rfl⟩
  apply obl_det
  case hrun =>
    intro D y wz hW hD R hR
    have HRR := Lib.hid hR
    clear hR
    have HW := Lib.hid hW
    clear hW hD
    go_wp2
    exact HRR.out _ ⟨HW.out.bel, HW.out.a, HW.out.m, HW.out.l, HW.out.p, HW.out.k, HW.out.p1, HW.out.p2, HW.out.p3, HW.out.p4, HW.out.p5, HW.out.p6⟩
  case hnp => rfl
  case hv => first | exact ⟨_, fun _ => rfl⟩ | exact ⟨undef, fun _ => rfl⟩
  apply obl_det
  case hrun =>
    intro D y wz hW hD R hR
    have HRR := Lib.hid hR
    clear hR
    have HW := Lib.hid hW
    clear hW hD
    go_wp2
    exact HRR.out _ ⟨HW.out.bel, HW.out.a, HW.out.m, HW.out.l, HW.out.p, HW.out.k, HW.out.p1, HW.out.p2, HW.out.p3, HW.out.p4, HW.out.p5, HW.out.p6⟩
  case hnp => rfl
  case hv => first | exact ⟨_, fun _ => rfl⟩ | exact ⟨undef, fun _ => rfl⟩
  apply obl_det
  case hrun =>
    intro D y wz hW hD R hR
    have HRR := Lib.hid hR
    clear hR
    have HW := Lib.hid hW
    clear hW hD
    go_wp2
    exact HRR.out _ ⟨HW.out.bel, HW.out.a, HW.out.m, HW.out.l, HW.out.p, HW.out.k, HW.out.p1, HW.out.p2, HW.out.p3, HW.out.p4, HW.out.p5, HW.out.p6⟩
  case hnp => rfl
  case hv => first | exact ⟨_, fun _ => rfl⟩ | exact ⟨undef, fun _ => rfl⟩
  apply obl_det
  case hrun =>
    intro D y wz hW hD R hR
    have HRR := Lib.hid hR
    clear hR
    have HW := Lib.hid hW
    clear hW hD
    go_wp2
    exact HRR.out _ ⟨HW.out.bel, HW.out.a, HW.out.m, HW.out.l, HW.out.p, HW.out.k, HW.out.p1, HW.out.p2, HW.out.p3, HW.out.p4, HW.out.p5, HW.out.p6⟩
  case hnp => rfl
  case hv => first | exact ⟨_, fun _ => rfl⟩ | exact ⟨undef, fun _ => rfl⟩
  apply obl_det
  case hrun =>
    intro D y wz hW hD R hR
    have HRR := Lib.hid hR
    clear hR
    have HW := Lib.hid hW
    clear hW hD
    go_wp2
    exact HRR.out _ ⟨HW.out.bel, HW.out.a, HW.out.m, HW.out.l, HW.out.p, HW.out.k, HW.out.p1, HW.out.p2, HW.out.p3, HW.out.p4, HW.out.p5, HW.out.p6⟩
  case hnp => rfl
  case hv => first | exact ⟨_, fun _ => rfl⟩ | exact ⟨undef, fun _ => rfl⟩
  apply obl_det
  case hrun =>
    intro D y wz hW hD R hR
    have HRR := Lib.hid hR
    clear hR
    have HW := Lib.hid hW
    clear hW hD
    go_wp2
    exact HRR.out _ ⟨HW.out.bel, HW.out.a, HW.out.m, HW.out.l, HW.out.p, HW.out.k, HW.out.p1, HW.out.p2, HW.out.p3, HW.out.p4, HW.out.p5, HW.out.p6⟩
  case hnp => rfl
  case hv => first | exact ⟨_, fun _ => rfl⟩ | exact ⟨undef, fun _ => rfl⟩
  apply obl_det
  case hrun =>
    intro D y wz hW hD R hR
    have HRR := Lib.hid hR
    clear hR
    have HW := Lib.hid hW
    clear hW hD
    go_wp2
    exact HRR.out _ ⟨HW.out.bel, HW.out.a, HW.out.m, HW.out.l, HW.out.p, HW.out.k, HW.out.p1, HW.out.p2, HW.out.p3, HW.out.p4, HW.out.p5, HW.out.p6⟩
  case hnp => rfl
  case hv => first | exact ⟨_, fun _ => rfl⟩ | exact ⟨undef, fun _ => rfl⟩
  apply obl_det
  case hrun =>
    intro D y wz hW hD R hR
    have HRR := Lib.hid hR
    clear hR
    have HW := Lib.hid hW
    clear hW hD
    go_wp2
    exact HRR.out _ ⟨HW.out.bel, HW.out.a, HW.out.m, HW.out.l, HW.out.p, HW.out.k, HW.out.p1, HW.out.p2, HW.out.p3, HW.out.p4, HW.out.p5, HW.out.p6⟩
  case hnp => rfl
  case hv => first | exact ⟨_, fun _ => rfl⟩ | exact ⟨undef, fun _ => rfl⟩
  apply obl_det
  case hrun =>
    intro D y wz hW hD R hR
    have HRR := Lib.hid hR
    clear hR
    have HW := Lib.hid hW
    clear hW hD
    go_wp2
    exact HRR.out _ ⟨HW.out.bel, HW.out.a, HW.out.m, HW.out.l, HW.out.p, HW.out.k, HW.out.p1, HW.out.p2, HW.out.p3, HW.out.p4, HW.out.p5, HW.out.p6⟩
  case hnp => rfl
  case hv => first | exact ⟨_, fun _ => rfl⟩ | exact ⟨undef, fun _ => rfl⟩
  apply obl_det
  case hrun =>
    intro D y wz hW hD R hR
    have HRR := Lib.hid hR
    clear hR
    have HW := Lib.hid hW
    clear hW hD
    go_wp2
    exact HRR.out _ ⟨HW.out.bel, HW.out.a, HW.out.m, HW.out.l, HW.out.p, HW.out.k, HW.out.p1, HW.out.p2, HW.out.p3, HW.out.p4, HW.out.p5, HW.out.p6⟩
  case hnp => rfl
  case hv => first | exact ⟨_, fun _ => rfl⟩ | exact ⟨undef, fun _ => rfl⟩
  apply obl_det
  case hrun =>
    intro D y wz hW hD R hR
    have HRR := Lib.hid hR
    clear hR
    have HW := Lib.hid hW
    clear hW hD
    refine wpList_load_want rfl 51 _ rfl _ rfl _ _ _ _ HW.out.k Try.underlying51 rfl info51 ?_
    go_simp
    exact HRR.out _ ⟨HW.out.bel, HW.out.a, HW.out.m, HW.out.l, HW.out.p, HW.out.k, HW.out.p1, HW.out.p2, HW.out.p3, HW.out.p4, HW.out.p5, HW.out.p6⟩
  case hnp => rfl
  case hv => first | exact ⟨_, fun _ => rfl⟩ | exact ⟨undef, fun _ => rfl⟩
  apply obl_det
  case hrun =>
    intro D y wz hW hD R hR
    have HRR := Lib.hid hR
    clear hR
    have HW := Lib.hid hW
    clear hW hD
    go_wp2_with fail
    refine (span38 0 192 _).mono ?_
    rintro e w' ⟨rfl, hb⟩
    have HW2 := Lib.hid (HW.out.next hb)
    clear hb
    go_wp2_with fail
    exact HRR.out _ ⟨HW2.out.bel, HW2.out.a, HW2.out.m, HW2.out.l, HW2.out.p, HW2.out.k, HW2.out.p1, HW2.out.p2, HW2.out.p3, HW2.out.p4, HW2.out.p5, HW2.out.p6⟩
  case hnp => rfl
  case hv => first | exact ⟨_, fun _ => rfl⟩ | exact ⟨undef, fun _ => rfl⟩
  apply obl_det
  case hrun =>
    intro D y wz hW hD R hR
    have HRR := Lib.hid hR
    clear hR
    have HW := Lib.hid hW
    clear hW hD
    go_wp2
    exact HRR.out _ ⟨HW.out.bel, HW.out.a, HW.out.m, HW.out.l, HW.out.p, HW.out.k, HW.out.p1, HW.out.p2, HW.out.p3, HW.out.p4, HW.out.p5, HW.out.p6⟩
  case hnp => rfl
  case hv => first | exact ⟨_, fun _ => rfl⟩ | exact ⟨undef, fun _ => rfl⟩
  apply obl_det
  case hrun =>
    intro D y wz hW hD R hR
    have HRR := Lib.hid hR
    clear hR
    have HW := Lib.hid hW
    clear hW hD
    go_wp2
    exact HRR.out _ ⟨HW.out.bel, HW.out.a, HW.out.m, HW.out.l, HW.out.p, HW.out.k, HW.out.p1, HW.out.p2, HW.out.p3, HW.out.p4, HW.out.p5, HW.out.p6⟩
  case hnp => rfl
  case hv => first | exact ⟨_, fun _ => rfl⟩ | exact ⟨undef, fun _ => rfl⟩
  apply obl_det
  case hrun =>
    intro D y wz hW hD R hR
    have HRR := Lib.hid hR
    clear hR
    have HW := Lib.hid hW
    clear hW hD
    go_wp2
    exact HRR.out _ ⟨HW.out.bel, HW.out.a, HW.out.m, HW.out.l, HW.out.p, HW.out.k, HW.out.p1, HW.out.p2, HW.out.p3, HW.out.p4, HW.out.p5, HW.out.p6⟩
  case hnp => rfl
  case hv => first | exact ⟨_, fun _ => rfl⟩ | exact ⟨undef, fun _ => rfl⟩
  apply obl_det
  case hrun =>
    intro D y wz hW hD R hR
    have HRR := Lib.hid hR
    clear hR
    have HW := Lib.hid hW
    clear hW hD
    go_wp2
    exact HRR.out _ ⟨HW.out.bel, HW.out.a, HW.out.m, HW.out.l, HW.out.p, HW.out.k, HW.out.p1, HW.out.p2, HW.out.p3, HW.out.p4, HW.out.p5, HW.out.p6⟩
  case hnp => rfl
  case hv => first | exact ⟨_, fun _ => rfl⟩ | exact ⟨undef, fun _ => rfl⟩
  apply obl_det
  case hrun =>
    intro D y wz hW hD R hR
    have HRR := Lib.hid hR
    clear hR
    have HW := Lib.hid hW
    clear hW hD
    go_wp2_with fail
    refine (span38 875 890 _).mono ?_
    rintro e w' ⟨rfl, hb⟩
    have HW2 := Lib.hid (HW.out.next hb)
    clear hb
    go_wp2_with fail
    exact HRR.out _ ⟨HW2.out.bel, HW2.out.a, HW2.out.m, HW2.out.l, HW2.out.p, HW2.out.k, HW2.out.p1, HW2.out.p2, HW2.out.p3, HW2.out.p4, HW2.out.p5, HW2.out.p6⟩
  case hnp => rfl
  case hv => first | exact ⟨_, fun _ => rfl⟩ | exact ⟨undef, fun _ => rfl⟩
  apply obl_det
  case hrun =>
    intro D y wz hW hD R hR
    have HRR := Lib.hid hR
    clear hR
    have HW := Lib.hid hW
    clear hW hD
    go_wp2_with fail
    refine (span38 944 952 _).mono ?_
    rintro e w' ⟨rfl, hb⟩
    have HW2 := Lib.hid (HW.out.next hb)
    clear hb
    go_wp2_with fail
    exact HRR.out _ ⟨HW2.out.bel, HW2.out.a, HW2.out.m, HW2.out.l, HW2.out.p, HW2.out.k, HW2.out.p1, HW2.out.p2, HW2.out.p3, HW2.out.p4, HW2.out.p5, HW2.out.p6⟩
  case hnp => rfl
  case hv => first | exact ⟨_, fun _ => rfl⟩ | exact ⟨undef, fun _ => rfl⟩
  apply obl_priv 144
  case hd => rfl
  case hp => rfl
  case hrun =>
    intro D y wz hW hD R hR
    have HRR := Lib.hid hR
    clear hR
    have HW := Lib.hid hW
    clear hW hD
    have HN := Lib.hid (HW.out.next (ba_allocB wz (.cells #[.int .i64 875, .int .i64 890, .int .i64 944, .int .i64 952] 51)))
    go_wp2_with fail
    refine HRR.out _ _ ?_
    exact ⟨HN.out.bel, HN.out.a, HN.out.m, HN.out.l, HN.out.p, HN.out.k, HN.out.p1, HN.out.p2, HN.out.p3, HN.out.p4, HN.out.p5, fun _ => SpansIn.row (heap_alloc_new _ _) rfl (by decide) rfl (by decide)⟩
  apply obl_det
  case hrun =>
    intro D y wz hW hD R hR
    have HRR := Lib.hid hR
    clear hR
    have HW := Lib.hid hW
    have HD : Hid (D 70 = true) := hD.pre _ 70 rfl (by kernel_rfl)
    clear hW hD
    go_wp2_with fail
    refine (spans_same _ v12 (y 144) wz HW.out.p (HW.out.p6 HD.out)).mono ?_
    rintro e w' ⟨rfl, hb⟩
    have HW2 := Lib.hid (HW.out.next hb)
    clear hb
    go_wp2_with fail
    exact HRR.out _ ⟨HW2.out.bel, HW2.out.a, HW2.out.m, HW2.out.l, HW2.out.p, HW2.out.k, HW2.out.p1, HW2.out.p2, HW2.out.p3, HW2.out.p4, HW2.out.p5, HW2.out.p6⟩
  case hnp => rfl
  case hv => first | exact ⟨_, fun _ => rfl⟩ | exact ⟨undef, fun _ => rfl⟩
  apply obl_det
  case hrun =>
    intro D y wz hW hD R hR
    have HRR := Lib.hid hR
    clear hR
    have HW := Lib.hid hW
    clear hW hD
    go_wp2
    exact HRR.out _ ⟨HW.out.bel, HW.out.a, HW.out.m, HW.out.l, HW.out.p, HW.out.k, HW.out.p1, HW.out.p2, HW.out.p3, HW.out.p4, HW.out.p5, HW.out.p6⟩
  case hnp => rfl
  case hv => first | exact ⟨_, fun _ => rfl⟩ | exact ⟨undef, fun _ => rfl⟩
  apply obl_det
  case hrun =>
    intro D y wz hW hD R hR
    have HRR := Lib.hid hR
    clear hR
    have HW := Lib.hid hW
    clear hW hD
    go_wp2
    exact HRR.out _ ⟨HW.out.bel, HW.out.a, HW.out.m, HW.out.l, HW.out.p, HW.out.k, HW.out.p1, HW.out.p2, HW.out.p3, HW.out.p4, HW.out.p5, HW.out.p6⟩
  case hnp => rfl
  case hv => first | exact ⟨_, fun _ => rfl⟩ | exact ⟨undef, fun _ => rfl⟩
  apply obl_det
  case hrun =>
    intro D y wz hW hD R hR
    have HRR := Lib.hid hR
    clear hR
    have HW := Lib.hid hW
    clear hW hD
    go_wp2
    exact HRR.out _ ⟨HW.out.bel, HW.out.a, HW.out.m, HW.out.l, HW.out.p, HW.out.k, HW.out.p1, HW.out.p2, HW.out.p3, HW.out.p4, HW.out.p5, HW.out.p6⟩
  case hnp => rfl
  case hv => first | exact ⟨_, fun _ => rfl⟩ | exact ⟨undef, fun _ => rfl⟩
  apply obl_det
  case hrun =>
    intro D y wz hW hD R hR
    have HRR := Lib.hid hR
    clear hR
    have HW := Lib.hid hW
    clear hW hD
    go_wp2
    exact HRR.out _ ⟨HW.out.bel, HW.out.a, HW.out.m, HW.out.l, HW.out.p, HW.out.k, HW.out.p1, HW.out.p2, HW.out.p3, HW.out.p4, HW.out.p5, HW.out.p6⟩
  case hnp => rfl
  case hv => first | exact ⟨_, fun _ => rfl⟩ | exact ⟨undef, fun _ => rfl⟩
  apply obl_det
  case hrun =>
    intro D y wz hW hD R hR
    have HRR := Lib.hid hR
    clear hR
    have HW := Lib.hid hW
    clear hW hD
    go_wp2
    exact HRR.out _ ⟨HW.out.bel, HW.out.a, HW.out.m, HW.out.l, HW.out.p, HW.out.k, HW.out.p1, HW.out.p2, HW.out.p3, HW.out.p4, HW.out.p5, HW.out.p6⟩
  case hnp => rfl
  case hv => first | exact ⟨_, fun _ => rfl⟩ | exact ⟨undef, fun _ => rfl⟩
  apply obl_det
  case hrun =>
    intro D y wz hW hD R hR
    have HRR := Lib.hid hR
    clear hR
    have HW := Lib.hid hW
    clear hW hD
    go_wp2
    exact HRR.out _ ⟨HW.out.bel, HW.out.a, HW.out.m, HW.out.l, HW.out.p, HW.out.k, HW.out.p1, HW.out.p2, HW.out.p3, HW.out.p4, HW.out.p5, HW.out.p6⟩
  case hnp => rfl
  case hv => first | exact ⟨_, fun _ => rfl⟩ | exact ⟨undef, fun _ => rfl⟩
  apply obl_det
  case hrun =>
    intro D y wz hW hD R hR
    have HRR := Lib.hid hR
    clear hR
    have HW := Lib.hid hW
    clear hW hD
    go_wp2
    exact HRR.out _ ⟨HW.out.bel, HW.out.a, HW.out.m, HW.out.l, HW.out.p, HW.out.k, HW.out.p1, HW.out.p2, HW.out.p3, HW.out.p4, HW.out.p5, HW.out.p6⟩
  case hnp => rfl
  case hv => first | exact ⟨_, fun _ => rfl⟩ | exact ⟨undef, fun _ => rfl⟩
  apply obl_det
  case hrun =>
    intro D y wz hW hD R hR
    have HRR := Lib.hid hR
    clear hR
    have HW := Lib.hid hW
    clear hW hD
    go_wp2
    exact HRR.out _ ⟨HW.out.bel, HW.out.a, HW.out.m, HW.out.l, HW.out.p, HW.out.k, HW.out.p1, HW.out.p2, HW.out.p3, HW.out.p4, HW.out.p5, HW.out.p6⟩
  case hnp => rfl
  case hv => first | exact ⟨_, fun _ => rfl⟩ | exact ⟨undef, fun _ => rfl⟩
  apply obl_det
  case hrun =>
    intro D y wz hW hD R hR
    have HRR := Lib.hid hR
    clear hR
    have HW := Lib.hid hW
    clear hW hD
    go_wp2
    exact HRR.out _ ⟨HW.out.bel, HW.out.a, HW.out.m, HW.out.l, HW.out.p, HW.out.k, HW.out.p1, HW.out.p2, HW.out.p3, HW.out.p4, HW.out.p5, HW.out.p6⟩
  case hnp => rfl
  case hv => first | exact ⟨_, fun _ => rfl⟩ | exact ⟨undef, fun _ => rfl⟩
  apply obl_det
  case hrun =>
    intro D y wz hW hD R hR
    have HRR := Lib.hid hR
    clear hR
    have HW := Lib.hid hW
    clear hW hD
    go_wp2
    exact HRR.out _ ⟨HW.out.bel, HW.out.a, HW.out.m, HW.out.l, HW.out.p, HW.out.k, HW.out.p1, HW.out.p2, HW.out.p3, HW.out.p4, HW.out.p5, HW.out.p6⟩
  case hnp => rfl
  case hv => first | exact ⟨_, fun _ => rfl⟩ | exact ⟨undef, fun _ => rfl⟩
  apply obl_nil
  intro D y w8 hall hW
  have HBel := Lib.hid (HB.out.trans (hW.bel.mono HB.out.size))
  clear hW hall
  go_wp2
  go_ret
  exact ⟨rfl, HBel.out⟩
end Go.Proofs.Ytaigbhhmmdfdcaa
