/- wick.truths. -/
import Derived.Test.YtpkggjobdmchlaaGreatDoorU3
namespace Go.Proofs.YtpkggjobdmchlaaGreatDoor
open Go.RowKit
section
variable {P : Program}
theorem results_row2 {fn : Func} {p q : Tmp} {T1 T2 : TypeId} (h : fn.results = #[.cell p T1, .cell q T2]) (tmps : Array Value) (w : World) (g1 g2 : Nat) (t1 t2 : TypeId) (c1 c2 : Array Value) (d1 d2 : TypeDesc)
    (hp : tmps.getD p undef = .pointer (some ⟨g1, 0, none⟩)) (hq : tmps.getD q undef = .pointer (some ⟨g2, 0, none⟩)) (hg1 : w.heap[g1]? = some (.cells c1 t1)) (hg2 : w.heap[g2]? = some (.cells c2 t2))
    (hu1 : P.underlying T1 = some d1) (hu2 : P.underlying T2 = some d2) (hd1 : (match d1 with | .struct _ | .array _ _ => true | _ => false) = true) (hd2 : (match d2 with | .struct _ | .array _ _ => true | _ => false) = true)
    (hi1 : (P.info? T1).map (·.size) = some c1.size) (hi2 : (P.info? T2).map (·.size) = some c2.size) :
    (results fn tmps).run P w = .ok (.tuple #[.agg c1, .agg c2]) w := by
  have hp' : tmps[p]?.getD undef = .pointer (some ⟨g1, 0, none⟩) := by simpa using hp
  have hq' : tmps[q]?.getD undef = .pointer (some ⟨g2, 0, none⟩) := by simpa using hq
  simp [results, h, hp', hq', asAddr, run_loadVar_row w g1 t1 T1 c1 (0, 0) d1 hg1 hu1 hd1 hi1, run_loadVar_row w g2 t2 T2 c2 (0, 0) d2 hg2 hu2 hd2 hi2]
theorem results_row2_tmp {fn : Func} {p q u : Tmp} {T1 T2 : TypeId} (h : fn.results = #[.cell p T1, .cell q T2, .tmp u]) (tmps : Array Value) (w : World) (g1 g2 : Nat) (t1 t2 : TypeId) (c1 c2 : Array Value) (d1 d2 : TypeDesc) (v : Value)
    (hp : tmps.getD p undef = .pointer (some ⟨g1, 0, none⟩)) (hq : tmps.getD q undef = .pointer (some ⟨g2, 0, none⟩)) (hv : tmps.getD u undef = v) (hg1 : w.heap[g1]? = some (.cells c1 t1)) (hg2 : w.heap[g2]? = some (.cells c2 t2))
    (hu1 : P.underlying T1 = some d1) (hu2 : P.underlying T2 = some d2) (hd1 : (match d1 with | .struct _ | .array _ _ => true | _ => false) = true) (hd2 : (match d2 with | .struct _ | .array _ _ => true | _ => false) = true)
    (hi1 : (P.info? T1).map (·.size) = some c1.size) (hi2 : (P.info? T2).map (·.size) = some c2.size) :
    (results fn tmps).run P w = .ok (.tuple #[.agg c1, .agg c2, v]) w := by
  have hp' : tmps[p]?.getD undef = .pointer (some ⟨g1, 0, none⟩) := by simpa using hp
  have hq' : tmps[q]?.getD undef = .pointer (some ⟨g2, 0, none⟩) := by simpa using hq
  have hv' : tmps[u]?.getD undef = v := by simpa using hv
  simp [results, h, hp', hq', hv', asAddr, run_loadVar_row w g1 t1 T1 c1 (0, 0) d1 hg1 hu1 hd1 hi1, run_loadVar_row w g2 t2 T2 c2 (0, 0) d2 hg2 hu2 hd2 hi2]
theorem results_row_tmp {fn : Func} {p u : Tmp} {T1 : TypeId} (h : fn.results = #[.cell p T1, .tmp u]) (tmps : Array Value) (w : World) (g1 : Nat) (t1 : TypeId) (c1 : Array Value) (d1 : TypeDesc) (v : Value)
    (hp : tmps.getD p undef = .pointer (some ⟨g1, 0, none⟩)) (hv : tmps.getD u undef = v) (hg1 : w.heap[g1]? = some (.cells c1 t1))
    (hu1 : P.underlying T1 = some d1) (hd1 : (match d1 with | .struct _ | .array _ _ => true | _ => false) = true) (hi1 : (P.info? T1).map (·.size) = some c1.size) :
    (results fn tmps).run P w = .ok (.tuple #[.agg c1, v]) w := by
  have hp' : tmps[p]?.getD undef = .pointer (some ⟨g1, 0, none⟩) := by simpa using hp
  have hv' : tmps[u]?.getD undef = v := by simpa using hv
  simp [results, h, hp', hv', asAddr, run_loadVar_row w g1 t1 T1 c1 (0, 0) d1 hg1 hu1 hd1 hi1]
end
/-- A row is stored: what else lies stays. -/
theorem wpList_store_bu {P : Program} {ops : Array Oper} {rest : List Oper} {o : Oper} {a : Act} {w0 w : World} {Q : Exit → Act → World → Prop} {l : List (Nat × Obj)} (hgd : o.guard = none) (ty : TypeId) (x y : Operand) (ho : o.op = .store ty x y) (H : Bs w0 l w) (i g : Nat) (cells old : Array Value) (t : TypeId) (hi : l[i]? = some (g, .cells old t))
    (hx : a.eval x = .pointer (some ⟨g, 0, none⟩)) (hy : a.eval y = .agg cells) (hn : (P.info? ty).map (·.size) = some cells.size) (hold : old.size = cells.size) (h1 : cells.all (·.oneCell') = true)
    (h : ∀ w', Bs w0 (l.set i (g, .cells cells t)) w' → (∀ k, k ≠ g → w'.heap[k]? = w.heap[k]?) → wpList P ops Q rest (a.put o.dst undef) w') : wpList P ops Q (o :: rest) a w :=
  wpList_store_row hgd ty x y ho g cells hx hy t old (H.get i hi) hn hold h1 (h _ (H.setRow i hi cells) (fun k hk => setRow_other w g k cells hk))
theorem ptr_injU {g g' : Nat} (h : Value.pointer (some ⟨g, 0, none⟩) = .pointer (some ⟨g', 0, none⟩)) : g = g' := by cases h; rfl
/-- Two boxes are laid and filled, in any order. -/
structure Tb2 (W0 : World) (z1 f1 : Array Value) (T1 : TypeId) (z2 f2 : Array Value) (T2 : TypeId) (d1 d2 s1 s2 : Bool) (y1 y2 : Value) (w : World) : Prop where
  bel : Below W0.heap.size W0 w
  p : d1 = true → ∃ g, y1 = .pointer (some ⟨g, 0, none⟩) ∧ W0.heap.size ≤ g ∧ w.heap[g]? = some (.cells (cond s1 f1 z1) T1)
  q : d2 = true → ∃ g, y2 = .pointer (some ⟨g, 0, none⟩) ∧ W0.heap.size ≤ g ∧ w.heap[g]? = some (.cells (cond s2 f2 z2) T2)
  pq : d1 = true → d2 = true → y1 ≠ y2
section
variable {W0 w w' : World} {z1 f1 z2 f2 : Array Value} {T1 T2 : TypeId} {d1 d2 s1 s2 : Bool} {y1 y2 : Value}
theorem Tb2.start (W0 : World) : Tb2 W0 z1 f1 T1 z2 f2 T2 false false false false y1 y2 W0.drew := ⟨(Below.refl _ _).drew, fun h => (by cases h), fun h => (by cases h), fun h => (by cases h)⟩
theorem Tb2.put1 (h : Tb2 W0 z1 f1 T1 z2 f2 T2 d1 d2 false s2 y1 y2 w) : Tb2 W0 z1 f1 T1 z2 f2 T2 true d2 false s2 (.pointer (some ⟨w.heap.size, 0, none⟩)) y2 (w.alloc (.cells z1 T1)) := by
  refine ⟨h.bel.alloc h.bel.size _, fun _ => ⟨_, rfl, h.bel.size, heap_alloc_new _ _⟩, fun e => ?_, fun _ e he => ?_⟩
  · obtain ⟨g, e1, e2, e3⟩ := h.q e; exact ⟨g, e1, e2, block_keep e3 ((Below.refl _ _).alloc (Nat.le_refl _) _)⟩
  · obtain ⟨g, e1, e2, e3⟩ := h.q e
    rw [e1] at he
    have := ptr_injU he
    have := block_lt e3
    omega
theorem Tb2.put2 (h : Tb2 W0 z1 f1 T1 z2 f2 T2 d1 d2 s1 false y1 y2 w) : Tb2 W0 z1 f1 T1 z2 f2 T2 d1 true s1 false y1 (.pointer (some ⟨w.heap.size, 0, none⟩)) (w.alloc (.cells z2 T2)) := by
  refine ⟨h.bel.alloc h.bel.size _, fun e => ?_, fun _ => ⟨_, rfl, h.bel.size, heap_alloc_new _ _⟩, fun e _ he => ?_⟩
  · obtain ⟨g, e1, e2, e3⟩ := h.p e; exact ⟨g, e1, e2, block_keep e3 ((Below.refl _ _).alloc (Nat.le_refl _) _)⟩
  · obtain ⟨g, e1, e2, e3⟩ := h.p e
    rw [e1] at he
    have := ptr_injU he
    have := block_lt e3
    omega
theorem Tb2.store1 (h : Tb2 W0 z1 f1 T1 z2 f2 T2 true true false s2 y1 y2 w) {g : Nat} (hp : y1 = .pointer (some ⟨g, 0, none⟩)) (hC : Bs W0 [(g, .cells f1 T1)] w') (hB : ∀ k, k ≠ g → w'.heap[k]? = w.heap[k]?) : Tb2 W0 z1 f1 T1 z2 f2 T2 true true true s2 y1 y2 w' := by
  refine ⟨hC.bel, fun _ => ⟨g, hp, hC.le 0 rfl, hC.get 0 rfl⟩, fun e => ?_, h.pq⟩
  obtain ⟨g', e1, e2, e3⟩ := h.q e
  refine ⟨g', e1, e2, (hB g' ?_).trans e3⟩
  rintro rfl
  exact h.pq rfl rfl (hp.trans e1.symm)
theorem Tb2.store2 (h : Tb2 W0 z1 f1 T1 z2 f2 T2 true true s1 false y1 y2 w) {g : Nat} (hp : y2 = .pointer (some ⟨g, 0, none⟩)) (hC : Bs W0 [(g, .cells f2 T2)] w') (hB : ∀ k, k ≠ g → w'.heap[k]? = w.heap[k]?) : Tb2 W0 z1 f1 T1 z2 f2 T2 true true s1 true y1 y2 w' := by
  refine ⟨hC.bel, fun e => ?_, fun _ => ⟨g, hp, hC.le 0 rfl, hC.get 0 rfl⟩, h.pq⟩
  obtain ⟨g', e1, e2, e3⟩ := h.p e
  refine ⟨g', e1, e2, (hB g' ?_).trans e3⟩
  rintro rfl
  exact h.pq rfl rfl (e1.trans hp.symm)
end
theorem infoTru : (Tryz.prog.info? 72).map (·.size) = some 6 := by kernel_rfl
theorem infoBurn : (Tryz.prog.info? 66).map (·.size) = some 3 := by kernel_rfl
theorem run_buildTru (a b c d e f : Int) (w : World) : (Instr.build 72 #[(0, .int .i64 a), (1, .int .i64 b), (2, .int .i64 c), (3, .int .i64 d), (4, .int .i64 e), (5, .int .i64 f)]).run Tryz.prog w = .ok (.agg #[.int .i64 a, .int .i64 b, .int .i64 c, .int .i64 d, .int .i64 e, .int .i64 f]) w := run_build w 72 _ _ (by kernel_rfl)
/-- What lies amid truths: the two results, the pull, the wax, the shop. -/
structure TrW2 (w0 : World) (r1 r2 : Nat) (c1 c2 : Array Value) (g6 g7 : Nat) (p : Int × Int) (x : Wax) (w : World) : Prop where
  bs : Bs w0 [(r1, .cells c1 72), (r2, .cells c2 72)] w
  l6 : r2 < g6 ∧ r2 < g7
  k6 : w.heap[g6]? = some (.cells #[.int .i64 p.1, .int .i64 p.2] 25)
  k7 : w.heap[g7]? = some (.cells #[.string x.name, .int .i64 x.flow.1, .int .i64 x.flow.2, .int .i64 x.rise.1, .int .i64 x.rise.2, .int .i64 x.spread.1, .int .i64 x.spread.2, .int .i64 x.chill] 102)
set_option maxRecDepth 100000 in
set_option maxHeartbeats 16000000 in
theorem truths_ok {s : WShop} {c : Candle} (k : Nat) (hk : k < s.wicks.length) (hd : 0 ≤ c.draught ∧ c.draught ≤ 90) (x : Wax) (vw vx : Value) (g : Nat) (w : World) (hv : WShopAt w.heap.size w vw vx s) (hg : w.heap[g]? = some (.cells (opC vw vx s c x) 104)) :
    Calls Tryz.prog 59 #[.pointer (some ⟨g, 0, none⟩), .int .i64 k] w fun e w' => e = .returned (.tuple #[.agg (wtruC (leastT x c (wpull s k))), .agg (wtruC (mostT x c (wpull s k)))]) ∧ Below w.heap.size w w' := by
  obtain ⟨va, vc, rfl, hvl, -⟩ := sl_shape hv.1
  obtain ⟨xa, xc, rfl, hxl, -⟩ := sl_shape hv.2
  obtain ⟨hd0, hd1⟩ := hd
  have HG := Lib.hid hg
  have HGL := Lib.hid (block_lt hg)
  obtain ⟨b, o, he, hbl, -, -, hx2, hx3, -⟩ := hv.1.at' hk
  cases he
  have HX2 : Hid (w.cell? ⟨b, o + k * 4 + 2, none⟩ = some (.int .i64 (wpull s k).1)) := hx2
  have HX3 : Hid (w.cell? ⟨b, o + k * 4 + 3, none⟩ = some (.int .i64 (wpull s k).2)) := hx3
  have HBL := Lib.hid hbl
  generalize wpull s k = p at *
  have hki : (k : Int) < (s.wicks.length : Int) := by omega
  clear hv hx2 hx3 hbl hg
  have C0 : Hid (Bs w [(w.heap.size, .cells #[.int .i64 0, .int .i64 0, .int .i64 0, .int .i64 0, .int .i64 0, .int .i64 0] 72), (w.heap.size + 1, .cells #[.int .i64 0, .int .i64 0, .int .i64 0, .int .i64 0, .int .i64 0, .int .i64 0] 72)] _) := Lib.hid (((Bs.nil w).push _ rfl (.cells #[.int .i64 0, .int .i64 0, .int .i64 0, .int .i64 0, .int .i64 0, .int .i64 0] 72)).push (w.heap.size + 1) (by simp) (.cells #[.int .i64 0, .int .i64 0, .int .i64 0, .int .i64 0, .int .i64 0, .int .i64 0] 72))
  go_enter Tryz.func59, Tryz.ntmps59
  go_wp2_with fail
  have HS0 : Hid (((w.alloc (.cells #[.int .i64 0, .int .i64 0, .int .i64 0, .int .i64 0, .int .i64 0, .int .i64 0] 72)).alloc (.cells #[.int .i64 0, .int .i64 0, .int .i64 0, .int .i64 0, .int .i64 0, .int .i64 0] 72)).heap.size = w.heap.size + 2) := by unfold Hid; simp
  generalize (w.alloc (.cells #[.int .i64 0, .int .i64 0, .int .i64 0, .int .i64 0, .int .i64 0, .int .i64 0] 72)).alloc (.cells #[.int .i64 0, .int .i64 0, .int .i64 0, .int .i64 0, .int .i64 0, .int .i64 0] 72) = W0 at *
  refine wp_region_inv1 (by kernel_rfl) (by kernel_rfl) [6, 7] (fun D y w' => Tb2 W0 #[.int .i64 0, .int .i64 0] #[.int .i64 p.1, .int .i64 p.2] 25 #[.string ByteArray.empty, .int .i64 0, .int .i64 0, .int .i64 0, .int .i64 0, .int .i64 0, .int .i64 0, .int .i64 0] #[.string x.name, .int .i64 x.flow.1, .int .i64 x.flow.2, .int .i64 x.rise.1, .int .i64 x.rise.2, .int .i64 x.spread.1, .int .i64 x.spread.2, .int .i64 x.chill] 102 (D 18) (D 19) (D 20) (D 21) (y 6) (y 7) w') (Tb2.start _) ?F1 ?hF1 ?_
  case hF1 =>
    intro y
    simp only [fill, List.foldl, Act.put, List.setIfInBounds_toArray, List.set]
    exact rfl
  apply obl_det
  case hrun =>
    intro D y wz hW hD R hR
    have HRR := Lib.hid hR
    clear hR
    have HW := Lib.hid hW
    clear hW hD
    go_wp2_with fail
    exact HRR.out _ ⟨HW.out.bel, HW.out.p, HW.out.q, HW.out.pq⟩
  case hnp => rfl
  case hv => first | exact ⟨_, fun _ => rfl⟩ | exact ⟨undef, fun _ => rfl⟩
  apply obl_det
  case hrun =>
    intro D y wz hW hD R hR
    have HRR := Lib.hid hR
    clear hR
    have HW := Lib.hid hW
    clear hW hD
    go_wp2_with fail
    exact HRR.out _ ⟨HW.out.bel, HW.out.p, HW.out.q, HW.out.pq⟩
  case hnp => rfl
  case hv => first | exact ⟨_, fun _ => rfl⟩ | exact ⟨undef, fun _ => rfl⟩
  apply obl_det
  case hrun =>
    intro D y wz hW hD R hR
    have HRR := Lib.hid hR
    clear hR
    have HW := Lib.hid hW
    clear hW hD
    go_wp2_with fail
    exact HRR.out _ ⟨HW.out.bel, HW.out.p, HW.out.q, HW.out.pq⟩
  case hnp => rfl
  case hv => first | exact ⟨_, fun _ => rfl⟩ | exact ⟨undef, fun _ => rfl⟩
  apply obl_det
  case hrun =>
    intro D y wz hW hD R hR
    have HRR := Lib.hid hR
    clear hR
    have HW := Lib.hid hW
    clear hW hD
    go_wp2_with fail
    exact HRR.out _ ⟨HW.out.bel, HW.out.p, HW.out.q, HW.out.pq⟩
  case hnp => rfl
  case hv => first | exact ⟨_, fun _ => rfl⟩ | exact ⟨undef, fun _ => rfl⟩
  apply obl_det
  case hrun =>
    intro D y wz hW hD R hR
    have HRR := Lib.hid hR
    clear hR
    have HW := Lib.hid hW
    have HZ := Lib.hid (C0.out.bel.trans (HW.out.bel.mono C0.out.bel.size))
    have hgg := block_keep HG.out HZ.out
    have h1 := cell_of_row _ _ 0 _ _ _ hgg
    clear hW hD
    go_wp2_with fail
    exact HRR.out _ ⟨HW.out.bel, HW.out.p, HW.out.q, HW.out.pq⟩
  case hnp => rfl
  case hv => first | exact ⟨_, fun _ => rfl⟩ | exact ⟨undef, fun _ => rfl⟩
  apply obl_det
  case hrun =>
    intro D y wz hW hD R hR
    have HRR := Lib.hid hR
    clear hR
    have HW := Lib.hid hW
    clear hW hD
    go_wp2_with fail
    exact HRR.out _ ⟨HW.out.bel, HW.out.p, HW.out.q, HW.out.pq⟩
  case hnp => rfl
  case hv => first | exact ⟨_, fun _ => rfl⟩ | exact ⟨undef, fun _ => rfl⟩
  apply obl_det
  case hrun =>
    intro D y wz hW hD R hR
    have HRR := Lib.hid hR
    clear hR
    have HW := Lib.hid hW
    clear hW hD
    go_wp2_with fail
    exact HRR.out _ ⟨HW.out.bel, HW.out.p, HW.out.q, HW.out.pq⟩
  case hnp => rfl
  case hv => first | exact ⟨_, fun _ => rfl⟩ | exact ⟨undef, fun _ => rfl⟩
  apply obl_det
  case hrun =>
    intro D y wz hW hD R hR
    have HRR := Lib.hid hR
    clear hR
    have HW := Lib.hid hW
    clear hW hD
    go_wp2_with fail
    exact HRR.out _ ⟨HW.out.bel, HW.out.p, HW.out.q, HW.out.pq⟩
  case hnp => rfl
  case hv => first | exact ⟨_, fun _ => rfl⟩ | exact ⟨undef, fun _ => rfl⟩
  apply obl_det
  case hrun =>
    intro D y wz hW hD R hR
    have HRR := Lib.hid hR
    clear hR
    have HW := Lib.hid hW
    have HZ := Lib.hid (C0.out.bel.trans (HW.out.bel.mono C0.out.bel.size))
    have h1 := (HZ.out.cell (p := ⟨b, o + k * 4 + 2, none⟩) HBL.out).trans HX2.out
    have h2 := (HZ.out.cell (p := ⟨b, o + k * 4 + 3, none⟩) HBL.out).trans HX3.out
    clear hW hD
    go_wp2_with fail
    exact HRR.out _ ⟨HW.out.bel, HW.out.p, HW.out.q, HW.out.pq⟩
  case hnp => rfl
  case hv => first | exact ⟨_, fun _ => rfl⟩ | exact ⟨undef, fun _ => rfl⟩
  apply obl_det
  case hrun =>
    intro D y wz hW hD R hR
    have HRR := Lib.hid hR
    clear hR
    have HW := Lib.hid hW
    clear hW hD
    go_wp2_with fail
    exact HRR.out _ ⟨HW.out.bel, HW.out.p, HW.out.q, HW.out.pq⟩
  case hnp => rfl
  case hv => first | exact ⟨_, fun _ => rfl⟩ | exact ⟨undef, fun _ => rfl⟩
  apply obl_det
  case hrun =>
    intro D y wz hW hD R hR
    have HRR := Lib.hid hR
    clear hR
    have HW := Lib.hid hW
    clear hW hD
    go_wp2_with fail
    exact HRR.out _ ⟨HW.out.bel, HW.out.p, HW.out.q, HW.out.pq⟩
  case hnp => rfl
  case hv => first | exact ⟨_, fun _ => rfl⟩ | exact ⟨undef, fun _ => rfl⟩
  apply obl_det
  case hrun =>
    intro D y wz hW hD R hR
    have HRR := Lib.hid hR
    clear hR
    have HW := Lib.hid hW
    clear hW hD
    go_wp2_with fail
    exact HRR.out _ ⟨HW.out.bel, HW.out.p, HW.out.q, HW.out.pq⟩
  case hnp => rfl
  case hv => first | exact ⟨_, fun _ => rfl⟩ | exact ⟨undef, fun _ => rfl⟩
  apply obl_det
  case hrun =>
    intro D y wz hW hD R hR
    have HRR := Lib.hid hR
    clear hR
    have HW := Lib.hid hW
    have HZ := Lib.hid (C0.out.bel.trans (HW.out.bel.mono C0.out.bel.size))
    have hgg := block_keep HG.out HZ.out
    have h0 := cell_of_row _ _ 11 _ _ _ hgg
    have h1 := cell_of_row _ _ 12 _ _ _ hgg
    have h2 := cell_of_row _ _ 13 _ _ _ hgg
    have h3 := cell_of_row _ _ 14 _ _ _ hgg
    have h4 := cell_of_row _ _ 15 _ _ _ hgg
    have h5 := cell_of_row _ _ 16 _ _ _ hgg
    have h6 := cell_of_row _ _ 17 _ _ _ hgg
    have h7 := cell_of_row _ _ 18 _ _ _ hgg
    clear hW hD
    go_wp2_with fail
    exact HRR.out _ ⟨HW.out.bel, HW.out.p, HW.out.q, HW.out.pq⟩
  case hnp => rfl
  case hv => first | exact ⟨_, fun _ => rfl⟩ | exact ⟨undef, fun _ => rfl⟩
  apply obl_det
  case hrun =>
    intro D y wz hW hD R hR
    have HRR := Lib.hid hR
    clear hR
    have HW := Lib.hid hW
    clear hW hD
    go_wp2_with fail
    exact HRR.out _ ⟨HW.out.bel, HW.out.p, HW.out.q, HW.out.pq⟩
  case hnp => rfl
  case hv => first | exact ⟨_, fun _ => rfl⟩ | exact ⟨undef, fun _ => rfl⟩
  apply obl_det
  case hrun =>
    intro D y wz hW hD R hR
    have HRR := Lib.hid hR
    clear hR
    have HW := Lib.hid hW
    clear hW hD
    go_wp2_with fail
    exact HRR.out _ ⟨HW.out.bel, HW.out.p, HW.out.q, HW.out.pq⟩
  case hnp => rfl
  case hv => first | exact ⟨_, fun _ => rfl⟩ | exact ⟨undef, fun _ => rfl⟩
  apply obl_det
  case hrun =>
    intro D y wz hW hD R hR
    have HRR := Lib.hid hR
    clear hR
    have HW := Lib.hid hW
    clear hW hD
    go_wp2_with fail
    exact HRR.out _ ⟨HW.out.bel, HW.out.p, HW.out.q, HW.out.pq⟩
  case hnp => rfl
  case hv => first | exact ⟨_, fun _ => rfl⟩ | exact ⟨undef, fun _ => rfl⟩
  apply obl_det
  case hrun =>
    intro D y wz hW hD R hR
    have HRR := Lib.hid hR
    clear hR
    have HW := Lib.hid hW
    clear hW hD
    go_wp2_with fail
    exact HRR.out _ ⟨HW.out.bel, HW.out.p, HW.out.q, HW.out.pq⟩
  case hnp => rfl
  case hv => first | exact ⟨_, fun _ => rfl⟩ | exact ⟨undef, fun _ => rfl⟩
  apply obl_det
  case hrun =>
    intro D y wz hW hD R hR
    have HRR := Lib.hid hR
    clear hR
    have HW := Lib.hid hW
    have HZ := Lib.hid (C0.out.bel.trans (HW.out.bel.mono C0.out.bel.size))
    have hgg := block_keep HG.out HZ.out
    have h1 := cell_of_row _ _ 8 _ _ _ hgg
    clear hW hD
    go_wp2_with fail
    exact HRR.out _ ⟨HW.out.bel, HW.out.p, HW.out.q, HW.out.pq⟩
  case hnp => rfl
  case hv => first | exact ⟨_, fun _ => rfl⟩ | exact ⟨undef, fun _ => rfl⟩
  apply obl_priv 6
  case hd => rfl
  case hp => rfl
  case hrun =>
    intro D y wz hW hD R hR
    have HRR := Lib.hid hR
    clear hR
    have h0 : D 20 = false := hD.post _ 20 rfl (by kernel_rfl)
    rw [h0] at hW
    have HN := Lib.hid hW.put1
    have H0 := Lib.hid h0
    clear hW hD h0
    go_wp2_with fail
    refine HRR.out (.pointer (some ⟨wz.heap.size, 0, none⟩)) _ ?_
    show Tb2 _ _ _ _ _ _ _ true (D 19) (D 20) (D 21) (.pointer _) (y 7) _
    rw [H0.out]
    exact HN.out
  apply obl_priv 7
  case hd => rfl
  case hp => rfl
  case hrun =>
    intro D y wz hW hD R hR
    have HRR := Lib.hid hR
    clear hR
    have h0 : D 21 = false := hD.post _ 21 rfl (by kernel_rfl)
    rw [h0] at hW
    have HN := Lib.hid hW.put2
    have H0 := Lib.hid h0
    clear hW hD h0
    go_wp2_with fail
    refine HRR.out (.pointer (some ⟨wz.heap.size, 0, none⟩)) _ ?_
    show Tb2 _ _ _ _ _ _ _ (D 18) true (D 20) (D 21) (y 6) (.pointer _) _
    rw [H0.out]
    exact HN.out
  apply obl_det
  case hrun =>
    intro D y wz hW hD R hR
    have HRR := Lib.hid hR
    clear hR
    have h0 : D 20 = false := hD.not
    have h18 : D 18 = true := hD.pre _ 18 rfl (by kernel_rfl)
    have h19 : D 19 = true := hD.pre _ 19 rfl (by kernel_rfl)
    rw [h0, h18, h19] at hW
    obtain ⟨gp, e, hgt, hcell⟩ := hW.p rfl
    have CC := Lib.hid (Bs.snocU (l := []) (w := W0) ⟨by simp, by simp, by simp, hW.bel⟩ (by simp) hcell hgt)
    have E := Lib.hid e
    have HW := Lib.hid hW
    have H18 := Lib.hid h18
    have H19 := Lib.hid h19
    clear hW hD h0 h18 h19 hcell e hgt
    refine wpList_store_bu rfl 25 _ _ rfl CC.out 0 gp #[.int .i64 p.1, .int .i64 p.2] _ _ rfl E.out rfl infoSpan rfl (by simp [Value.oneCell']) ?_
    intro w4 hC4 hB4
    have HN := Lib.hid (HW.out.store1 E.out hC4 hB4)
    clear hC4 hB4
    simp only [Act.put]
    go_simp
    refine HRR.out _ ?_
    show Tb2 _ _ _ _ _ _ _ (D 18) (D 19) true (D 21) (y 6) (y 7) _
    rw [H18.out, H19.out]
    exact HN.out
  case hnp => rfl
  case hv => first | exact ⟨_, fun _ => rfl⟩ | exact ⟨undef, fun _ => rfl⟩
  apply obl_det
  case hrun =>
    intro D y wz hW hD R hR
    have HRR := Lib.hid hR
    clear hR
    have h0 : D 21 = false := hD.not
    have h18 : D 18 = true := hD.pre _ 18 rfl (by kernel_rfl)
    have h19 : D 19 = true := hD.pre _ 19 rfl (by kernel_rfl)
    rw [h0, h18, h19] at hW
    obtain ⟨gp, e, hgt, hcell⟩ := hW.q rfl
    have CC := Lib.hid (Bs.snocU (l := []) (w := W0) ⟨by simp, by simp, by simp, hW.bel⟩ (by simp) hcell hgt)
    have E := Lib.hid e
    have HW := Lib.hid hW
    have H18 := Lib.hid h18
    have H19 := Lib.hid h19
    clear hW hD h0 h18 h19 hcell e hgt
    refine wpList_store_bu rfl 102 _ _ rfl CC.out 0 gp #[.string x.name, .int .i64 x.flow.1, .int .i64 x.flow.2, .int .i64 x.rise.1, .int .i64 x.rise.2, .int .i64 x.spread.1, .int .i64 x.spread.2, .int .i64 x.chill] _ _ rfl E.out rfl infoWax rfl (by simp [Value.oneCell']) ?_
    intro w4 hC4 hB4
    have HN := Lib.hid (HW.out.store2 E.out hC4 hB4)
    clear hC4 hB4
    simp only [Act.put]
    go_simp
    refine HRR.out _ ?_
    show Tb2 _ _ _ _ _ _ _ (D 18) (D 19) (D 20) true (y 6) (y 7) _
    rw [H18.out, H19.out]
    exact HN.out
  case hnp => rfl
  case hv => first | exact ⟨_, fun _ => rfl⟩ | exact ⟨undef, fun _ => rfl⟩
  apply obl_det
  case hrun =>
    intro D y wz hW hD R hR
    have HRR := Lib.hid hR
    clear hR
    have HW := Lib.hid hW
    clear hW hD
    go_wp2_with fail
    exact HRR.out _ ⟨HW.out.bel, HW.out.p, HW.out.q, HW.out.pq⟩
  case hnp => rfl
  case hv => first | exact ⟨_, fun _ => rfl⟩ | exact ⟨undef, fun _ => rfl⟩
  apply obl_nil
  intro D y w8 hall hW
  obtain ⟨g6, e6, hg6, hc6⟩ := hW.p (hall 18 (by decide))
  obtain ⟨g7, e7, hg7, hc7⟩ := hW.q (hall 19 (by decide))
  rw [hall 20 (by decide)] at hc6
  rw [hall 21 (by decide)] at hc7
  have HT0 : Hid (TrW2 w w.heap.size (w.heap.size + 1) #[.int .i64 0, .int .i64 0, .int .i64 0, .int .i64 0, .int .i64 0, .int .i64 0] #[.int .i64 0, .int .i64 0, .int .i64 0, .int .i64 0, .int .i64 0, .int .i64 0] g6 g7 p x w8) := ⟨C0.out.call hW.bel, by have := HS0.out; omega, hc6, hc7⟩
  rw [e6, e7]
  clear hW hall e6 e7 hg6 hg7 hc6 hc7 C0 HS0
  go_wp2_with fail
  refine wp_region_inv0 (by kernel_rfl) (by kernel_rfl) (fun D w' => TrW2 w w.heap.size (w.heap.size + 1) (cond (D 20) #[.int .i64 p.1, .int .i64 x.flow.1, .int .i64 x.rise.1, .int .i64 x.spread.1, .int .i64 (-c.draught), .int .i64 c.cold.2] #[.int .i64 0, .int .i64 0, .int .i64 0, .int .i64 0, .int .i64 0, .int .i64 0]) #[.int .i64 0, .int .i64 0, .int .i64 0, .int .i64 0, .int .i64 0, .int .i64 0] g6 g7 p x w') ⟨HT0.out.bs.drew, HT0.out.l6, HT0.out.k6, HT0.out.k7⟩ ?_
  apply obl_det
  case hrun =>
    intro D y wz hW hD R hR
    have HRR := Lib.hid hR
    clear hR
    have HW := Lib.hid hW
    clear hW hD
    go_wp2_with fail
    exact HRR.out _ ⟨HW.out.bs, HW.out.l6, HW.out.k6, HW.out.k7⟩
  case hnp => rfl
  case hv => first | exact ⟨_, fun _ => rfl⟩ | exact ⟨undef, fun _ => rfl⟩
  apply obl_det
  case hrun =>
    intro D y wz hW hD R hR
    have HRR := Lib.hid hR
    clear hR
    have HW := Lib.hid hW
    have h1 := cell_of_row _ _ 0 _ _ _ HW.out.k6
    clear hW hD
    go_wp2_with fail
    exact HRR.out _ ⟨HW.out.bs, HW.out.l6, HW.out.k6, HW.out.k7⟩
  case hnp => rfl
  case hv => first | exact ⟨_, fun _ => rfl⟩ | exact ⟨undef, fun _ => rfl⟩
  apply obl_det
  case hrun =>
    intro D y wz hW hD R hR
    have HRR := Lib.hid hR
    clear hR
    have HW := Lib.hid hW
    clear hW hD
    go_wp2_with fail
    exact HRR.out _ ⟨HW.out.bs, HW.out.l6, HW.out.k6, HW.out.k7⟩
  case hnp => rfl
  case hv => first | exact ⟨_, fun _ => rfl⟩ | exact ⟨undef, fun _ => rfl⟩
  apply obl_det
  case hrun =>
    intro D y wz hW hD R hR
    have HRR := Lib.hid hR
    clear hR
    have HW := Lib.hid hW
    clear hW hD
    go_wp2_with fail
    exact HRR.out _ ⟨HW.out.bs, HW.out.l6, HW.out.k6, HW.out.k7⟩
  case hnp => rfl
  case hv => first | exact ⟨_, fun _ => rfl⟩ | exact ⟨undef, fun _ => rfl⟩
  apply obl_det
  case hrun =>
    intro D y wz hW hD R hR
    have HRR := Lib.hid hR
    clear hR
    have HW := Lib.hid hW
    have h1 := cell_of_row _ _ 1 _ _ _ HW.out.k7
    clear hW hD
    go_wp2_with fail
    exact HRR.out _ ⟨HW.out.bs, HW.out.l6, HW.out.k6, HW.out.k7⟩
  case hnp => rfl
  case hv => first | exact ⟨_, fun _ => rfl⟩ | exact ⟨undef, fun _ => rfl⟩
  apply obl_det
  case hrun =>
    intro D y wz hW hD R hR
    have HRR := Lib.hid hR
    clear hR
    have HW := Lib.hid hW
    clear hW hD
    go_wp2_with fail
    exact HRR.out _ ⟨HW.out.bs, HW.out.l6, HW.out.k6, HW.out.k7⟩
  case hnp => rfl
  case hv => first | exact ⟨_, fun _ => rfl⟩ | exact ⟨undef, fun _ => rfl⟩
  apply obl_det
  case hrun =>
    intro D y wz hW hD R hR
    have HRR := Lib.hid hR
    clear hR
    have HW := Lib.hid hW
    clear hW hD
    go_wp2_with fail
    exact HRR.out _ ⟨HW.out.bs, HW.out.l6, HW.out.k6, HW.out.k7⟩
  case hnp => rfl
  case hv => first | exact ⟨_, fun _ => rfl⟩ | exact ⟨undef, fun _ => rfl⟩
  apply obl_det
  case hrun =>
    intro D y wz hW hD R hR
    have HRR := Lib.hid hR
    clear hR
    have HW := Lib.hid hW
    have h1 := cell_of_row _ _ 3 _ _ _ HW.out.k7
    clear hW hD
    go_wp2_with fail
    exact HRR.out _ ⟨HW.out.bs, HW.out.l6, HW.out.k6, HW.out.k7⟩
  case hnp => rfl
  case hv => first | exact ⟨_, fun _ => rfl⟩ | exact ⟨undef, fun _ => rfl⟩
  apply obl_det
  case hrun =>
    intro D y wz hW hD R hR
    have HRR := Lib.hid hR
    clear hR
    have HW := Lib.hid hW
    clear hW hD
    go_wp2_with fail
    exact HRR.out _ ⟨HW.out.bs, HW.out.l6, HW.out.k6, HW.out.k7⟩
  case hnp => rfl
  case hv => first | exact ⟨_, fun _ => rfl⟩ | exact ⟨undef, fun _ => rfl⟩
  apply obl_det
  case hrun =>
    intro D y wz hW hD R hR
    have HRR := Lib.hid hR
    clear hR
    have HW := Lib.hid hW
    clear hW hD
    go_wp2_with fail
    exact HRR.out _ ⟨HW.out.bs, HW.out.l6, HW.out.k6, HW.out.k7⟩
  case hnp => rfl
  case hv => first | exact ⟨_, fun _ => rfl⟩ | exact ⟨undef, fun _ => rfl⟩
  apply obl_det
  case hrun =>
    intro D y wz hW hD R hR
    have HRR := Lib.hid hR
    clear hR
    have HW := Lib.hid hW
    have h1 := cell_of_row _ _ 5 _ _ _ HW.out.k7
    clear hW hD
    go_wp2_with fail
    exact HRR.out _ ⟨HW.out.bs, HW.out.l6, HW.out.k6, HW.out.k7⟩
  case hnp => rfl
  case hv => first | exact ⟨_, fun _ => rfl⟩ | exact ⟨undef, fun _ => rfl⟩
  apply obl_det
  case hrun =>
    intro D y wz hW hD R hR
    have HRR := Lib.hid hR
    clear hR
    have HW := Lib.hid hW
    clear hW hD
    go_wp2_with fail
    exact HRR.out _ ⟨HW.out.bs, HW.out.l6, HW.out.k6, HW.out.k7⟩
  case hnp => rfl
  case hv => first | exact ⟨_, fun _ => rfl⟩ | exact ⟨undef, fun _ => rfl⟩
  apply obl_det
  case hrun =>
    intro D y wz hW hD R hR
    have HRR := Lib.hid hR
    clear hR
    have HW := Lib.hid hW
    clear hW hD
    go_wp2_with fail
    exact HRR.out _ ⟨HW.out.bs, HW.out.l6, HW.out.k6, HW.out.k7⟩
  case hnp => rfl
  case hv => first | exact ⟨_, fun _ => rfl⟩ | exact ⟨undef, fun _ => rfl⟩
  apply obl_det
  case hrun =>
    intro D y wz hW hD R hR
    have HRR := Lib.hid hR
    clear hR
    have HW := Lib.hid hW
    clear hW hD
    go_wp2_with fail
    exact HRR.out _ ⟨HW.out.bs, HW.out.l6, HW.out.k6, HW.out.k7⟩
  case hnp => rfl
  case hv => first | exact ⟨_, fun _ => rfl⟩ | exact ⟨undef, fun _ => rfl⟩
  apply obl_det
  case hrun =>
    intro D y wz hW hD R hR
    have HRR := Lib.hid hR
    clear hR
    have HW := Lib.hid hW
    clear hW hD
    go_wp2_with fail
    exact HRR.out _ ⟨HW.out.bs, HW.out.l6, HW.out.k6, HW.out.k7⟩
  case hnp => rfl
  case hv => first | exact ⟨_, fun _ => rfl⟩ | exact ⟨undef, fun _ => rfl⟩
  apply obl_det
  case hrun =>
    intro D y wz hW hD R hR
    have HRR := Lib.hid hR
    clear hR
    have HW := Lib.hid hW
    clear hW hD
    go_wp2_with fail
    exact HRR.out _ ⟨HW.out.bs, HW.out.l6, HW.out.k6, HW.out.k7⟩
  case hnp => rfl
  case hv => first | exact ⟨_, fun _ => rfl⟩ | exact ⟨undef, fun _ => rfl⟩
  apply obl_det
  case hrun =>
    intro D y wz hW hD R hR
    have HRR := Lib.hid hR
    clear hR
    have HW := Lib.hid hW
    clear hW hD
    go_wp2_with fail
    exact HRR.out _ ⟨HW.out.bs, HW.out.l6, HW.out.k6, HW.out.k7⟩
  case hnp => rfl
  case hv => first | exact ⟨_, fun _ => rfl⟩ | exact ⟨undef, fun _ => rfl⟩
  apply obl_det
  case hrun =>
    intro D y wz hW hD R hR
    have HRR := Lib.hid hR
    clear hR
    have HW := Lib.hid hW
    clear hW hD
    go_wp2_with fail
    exact HRR.out _ ⟨HW.out.bs, HW.out.l6, HW.out.k6, HW.out.k7⟩
  case hnp => rfl
  case hv => first | exact ⟨_, fun _ => rfl⟩ | exact ⟨undef, fun _ => rfl⟩
  apply obl_det
  case hrun =>
    intro D y wz hW hD R hR
    have HRR := Lib.hid hR
    clear hR
    have HW := Lib.hid hW
    have hgg := block_keep HG.out HW.out.bs.bel
    have h1 := cell_of_row _ _ 10 _ _ _ hgg
    clear hW hD
    go_wp2_with fail
    exact HRR.out _ ⟨HW.out.bs, HW.out.l6, HW.out.k6, HW.out.k7⟩
  case hnp => rfl
  case hv => first | exact ⟨_, fun _ => rfl⟩ | exact ⟨undef, fun _ => rfl⟩
  apply obl_det
  case hrun =>
    intro D y wz hW hD R hR
    have HRR := Lib.hid hR
    clear hR
    have HW := Lib.hid hW
    clear hW hD
    refine wpList_bdU rfl 72 _ rfl _ (by simp only [List.map_toArray, List.map]; rfl) _ (run_buildTru ..) ?_
    exact HRR.out _ ⟨HW.out.bs, HW.out.l6, HW.out.k6, HW.out.k7⟩
  case hnp => rfl
  case hv => first | exact ⟨_, fun _ => rfl⟩ | exact ⟨undef, fun _ => rfl⟩
  apply obl_det
  case hrun =>
    intro D y wz hW hD R hR
    have HRR := Lib.hid hR
    clear hR
    have h0 : D 20 = false := hD.not
    rw [h0] at hW
    have HW := Lib.hid hW
    clear hW hD h0
    refine wpList_store_bu rfl 72 _ _ rfl HW.out.bs 0 _ #[.int .i64 p.1, .int .i64 x.flow.1, .int .i64 x.rise.1, .int .i64 x.spread.1, .int .i64 (-c.draught), .int .i64 c.cold.2] _ _ rfl rfl rfl infoTru rfl (by simp [Value.oneCell']) ?_
    intro w4 hC4 hB4
    have HC4 := Lib.hid hC4
    have HB4 := Lib.hid hB4
    clear hC4 hB4
    simp only [Act.put]
    go_simp
    have hl := HW.out.l6
    exact HRR.out _ ⟨HC4.out, hl, (HB4.out _ (by omega)).trans HW.out.k6, (HB4.out _ (by omega)).trans HW.out.k7⟩
  case hnp => rfl
  case hv => first | exact ⟨_, fun _ => rfl⟩ | exact ⟨undef, fun _ => rfl⟩
  apply obl_nil
  intro D y w9 hall hW
  rw [hall 20 (by decide)] at hW
  have HT1 : Hid (TrW2 w w.heap.size (w.heap.size + 1) #[.int .i64 p.1, .int .i64 x.flow.1, .int .i64 x.rise.1, .int .i64 x.spread.1, .int .i64 (-c.draught), .int .i64 c.cold.2] #[.int .i64 0, .int .i64 0, .int .i64 0, .int .i64 0, .int .i64 0, .int .i64 0] g6 g7 p x w9) := hW
  clear hW hall HT0
  go_wp2_with fail
  refine wp_region_inv0 (by kernel_rfl) (by kernel_rfl) (fun D w' => TrW2 w w.heap.size (w.heap.size + 1) #[.int .i64 p.1, .int .i64 x.flow.1, .int .i64 x.rise.1, .int .i64 x.spread.1, .int .i64 (-c.draught), .int .i64 c.cold.2] (cond (D 19) #[.int .i64 p.2, .int .i64 x.flow.2, .int .i64 x.rise.2, .int .i64 x.spread.2, .int .i64 c.draught, .int .i64 c.cold.1] #[.int .i64 0, .int .i64 0, .int .i64 0, .int .i64 0, .int .i64 0, .int .i64 0]) g6 g7 p x w') ⟨HT1.out.bs.drew, HT1.out.l6, HT1.out.k6, HT1.out.k7⟩ ?_
  apply obl_det
  case hrun =>
    intro D y wz hW hD R hR
    have HRR := Lib.hid hR
    clear hR
    have HW := Lib.hid hW
    clear hW hD
    go_wp2_with fail
    exact HRR.out _ ⟨HW.out.bs, HW.out.l6, HW.out.k6, HW.out.k7⟩
  case hnp => rfl
  case hv => first | exact ⟨_, fun _ => rfl⟩ | exact ⟨undef, fun _ => rfl⟩
  apply obl_det
  case hrun =>
    intro D y wz hW hD R hR
    have HRR := Lib.hid hR
    clear hR
    have HW := Lib.hid hW
    have h1 := cell_of_row _ _ 1 _ _ _ HW.out.k6
    clear hW hD
    go_wp2_with fail
    exact HRR.out _ ⟨HW.out.bs, HW.out.l6, HW.out.k6, HW.out.k7⟩
  case hnp => rfl
  case hv => first | exact ⟨_, fun _ => rfl⟩ | exact ⟨undef, fun _ => rfl⟩
  apply obl_det
  case hrun =>
    intro D y wz hW hD R hR
    have HRR := Lib.hid hR
    clear hR
    have HW := Lib.hid hW
    clear hW hD
    go_wp2_with fail
    exact HRR.out _ ⟨HW.out.bs, HW.out.l6, HW.out.k6, HW.out.k7⟩
  case hnp => rfl
  case hv => first | exact ⟨_, fun _ => rfl⟩ | exact ⟨undef, fun _ => rfl⟩
  apply obl_det
  case hrun =>
    intro D y wz hW hD R hR
    have HRR := Lib.hid hR
    clear hR
    have HW := Lib.hid hW
    clear hW hD
    go_wp2_with fail
    exact HRR.out _ ⟨HW.out.bs, HW.out.l6, HW.out.k6, HW.out.k7⟩
  case hnp => rfl
  case hv => first | exact ⟨_, fun _ => rfl⟩ | exact ⟨undef, fun _ => rfl⟩
  apply obl_det
  case hrun =>
    intro D y wz hW hD R hR
    have HRR := Lib.hid hR
    clear hR
    have HW := Lib.hid hW
    have h1 := cell_of_row _ _ 2 _ _ _ HW.out.k7
    clear hW hD
    go_wp2_with fail
    exact HRR.out _ ⟨HW.out.bs, HW.out.l6, HW.out.k6, HW.out.k7⟩
  case hnp => rfl
  case hv => first | exact ⟨_, fun _ => rfl⟩ | exact ⟨undef, fun _ => rfl⟩
  apply obl_det
  case hrun =>
    intro D y wz hW hD R hR
    have HRR := Lib.hid hR
    clear hR
    have HW := Lib.hid hW
    clear hW hD
    go_wp2_with fail
    exact HRR.out _ ⟨HW.out.bs, HW.out.l6, HW.out.k6, HW.out.k7⟩
  case hnp => rfl
  case hv => first | exact ⟨_, fun _ => rfl⟩ | exact ⟨undef, fun _ => rfl⟩
  apply obl_det
  case hrun =>
    intro D y wz hW hD R hR
    have HRR := Lib.hid hR
    clear hR
    have HW := Lib.hid hW
    clear hW hD
    go_wp2_with fail
    exact HRR.out _ ⟨HW.out.bs, HW.out.l6, HW.out.k6, HW.out.k7⟩
  case hnp => rfl
  case hv => first | exact ⟨_, fun _ => rfl⟩ | exact ⟨undef, fun _ => rfl⟩
  apply obl_det
  case hrun =>
    intro D y wz hW hD R hR
    have HRR := Lib.hid hR
    clear hR
    have HW := Lib.hid hW
    have h1 := cell_of_row _ _ 4 _ _ _ HW.out.k7
    clear hW hD
    go_wp2_with fail
    exact HRR.out _ ⟨HW.out.bs, HW.out.l6, HW.out.k6, HW.out.k7⟩
  case hnp => rfl
  case hv => first | exact ⟨_, fun _ => rfl⟩ | exact ⟨undef, fun _ => rfl⟩
  apply obl_det
  case hrun =>
    intro D y wz hW hD R hR
    have HRR := Lib.hid hR
    clear hR
    have HW := Lib.hid hW
    clear hW hD
    go_wp2_with fail
    exact HRR.out _ ⟨HW.out.bs, HW.out.l6, HW.out.k6, HW.out.k7⟩
  case hnp => rfl
  case hv => first | exact ⟨_, fun _ => rfl⟩ | exact ⟨undef, fun _ => rfl⟩
  apply obl_det
  case hrun =>
    intro D y wz hW hD R hR
    have HRR := Lib.hid hR
    clear hR
    have HW := Lib.hid hW
    clear hW hD
    go_wp2_with fail
    exact HRR.out _ ⟨HW.out.bs, HW.out.l6, HW.out.k6, HW.out.k7⟩
  case hnp => rfl
  case hv => first | exact ⟨_, fun _ => rfl⟩ | exact ⟨undef, fun _ => rfl⟩
  apply obl_det
  case hrun =>
    intro D y wz hW hD R hR
    have HRR := Lib.hid hR
    clear hR
    have HW := Lib.hid hW
    have h1 := cell_of_row _ _ 6 _ _ _ HW.out.k7
    clear hW hD
    go_wp2_with fail
    exact HRR.out _ ⟨HW.out.bs, HW.out.l6, HW.out.k6, HW.out.k7⟩
  case hnp => rfl
  case hv => first | exact ⟨_, fun _ => rfl⟩ | exact ⟨undef, fun _ => rfl⟩
  apply obl_det
  case hrun =>
    intro D y wz hW hD R hR
    have HRR := Lib.hid hR
    clear hR
    have HW := Lib.hid hW
    clear hW hD
    go_wp2_with fail
    exact HRR.out _ ⟨HW.out.bs, HW.out.l6, HW.out.k6, HW.out.k7⟩
  case hnp => rfl
  case hv => first | exact ⟨_, fun _ => rfl⟩ | exact ⟨undef, fun _ => rfl⟩
  apply obl_det
  case hrun =>
    intro D y wz hW hD R hR
    have HRR := Lib.hid hR
    clear hR
    have HW := Lib.hid hW
    clear hW hD
    go_wp2_with fail
    exact HRR.out _ ⟨HW.out.bs, HW.out.l6, HW.out.k6, HW.out.k7⟩
  case hnp => rfl
  case hv => first | exact ⟨_, fun _ => rfl⟩ | exact ⟨undef, fun _ => rfl⟩
  apply obl_det
  case hrun =>
    intro D y wz hW hD R hR
    have HRR := Lib.hid hR
    clear hR
    have HW := Lib.hid hW
    clear hW hD
    go_wp2_with fail
    exact HRR.out _ ⟨HW.out.bs, HW.out.l6, HW.out.k6, HW.out.k7⟩
  case hnp => rfl
  case hv => first | exact ⟨_, fun _ => rfl⟩ | exact ⟨undef, fun _ => rfl⟩
  apply obl_det
  case hrun =>
    intro D y wz hW hD R hR
    have HRR := Lib.hid hR
    clear hR
    have HW := Lib.hid hW
    clear hW hD
    go_wp2_with fail
    exact HRR.out _ ⟨HW.out.bs, HW.out.l6, HW.out.k6, HW.out.k7⟩
  case hnp => rfl
  case hv => first | exact ⟨_, fun _ => rfl⟩ | exact ⟨undef, fun _ => rfl⟩
  apply obl_det
  case hrun =>
    intro D y wz hW hD R hR
    have HRR := Lib.hid hR
    clear hR
    have HW := Lib.hid hW
    clear hW hD
    go_wp2_with fail
    exact HRR.out _ ⟨HW.out.bs, HW.out.l6, HW.out.k6, HW.out.k7⟩
  case hnp => rfl
  case hv => first | exact ⟨_, fun _ => rfl⟩ | exact ⟨undef, fun _ => rfl⟩
  apply obl_det
  case hrun =>
    intro D y wz hW hD R hR
    have HRR := Lib.hid hR
    clear hR
    have HW := Lib.hid hW
    clear hW hD
    go_wp2_with fail
    exact HRR.out _ ⟨HW.out.bs, HW.out.l6, HW.out.k6, HW.out.k7⟩
  case hnp => rfl
  case hv => first | exact ⟨_, fun _ => rfl⟩ | exact ⟨undef, fun _ => rfl⟩
  apply obl_det
  case hrun =>
    intro D y wz hW hD R hR
    have HRR := Lib.hid hR
    clear hR
    have HW := Lib.hid hW
    have hgg := block_keep HG.out HW.out.bs.bel
    have h1 := cell_of_row _ _ 9 _ _ _ hgg
    clear hW hD
    go_wp2_with fail
    exact HRR.out _ ⟨HW.out.bs, HW.out.l6, HW.out.k6, HW.out.k7⟩
  case hnp => rfl
  case hv => first | exact ⟨_, fun _ => rfl⟩ | exact ⟨undef, fun _ => rfl⟩
  apply obl_det
  case hrun =>
    intro D y wz hW hD R hR
    have HRR := Lib.hid hR
    clear hR
    have HW := Lib.hid hW
    clear hW hD
    refine wpList_bdU rfl 72 _ rfl _ (by simp only [List.map_toArray, List.map]; rfl) _ (run_buildTru ..) ?_
    exact HRR.out _ ⟨HW.out.bs, HW.out.l6, HW.out.k6, HW.out.k7⟩
  case hnp => rfl
  case hv => first | exact ⟨_, fun _ => rfl⟩ | exact ⟨undef, fun _ => rfl⟩
  apply obl_det
  case hrun =>
    intro D y wz hW hD R hR
    have HRR := Lib.hid hR
    clear hR
    have h0 : D 19 = false := hD.not
    rw [h0] at hW
    have HW := Lib.hid hW
    clear hW hD h0
    refine wpList_store_bu rfl 72 _ _ rfl HW.out.bs 1 _ #[.int .i64 p.2, .int .i64 x.flow.2, .int .i64 x.rise.2, .int .i64 x.spread.2, .int .i64 c.draught, .int .i64 c.cold.1] _ _ rfl rfl rfl infoTru rfl (by simp [Value.oneCell']) ?_
    intro w4 hC4 hB4
    have HC4 := Lib.hid hC4
    have HB4 := Lib.hid hB4
    clear hC4 hB4
    simp only [Act.put]
    go_simp
    have hl := HW.out.l6
    exact HRR.out _ ⟨HC4.out, hl, (HB4.out _ (by omega)).trans HW.out.k6, (HB4.out _ (by omega)).trans HW.out.k7⟩
  case hnp => rfl
  case hv => first | exact ⟨_, fun _ => rfl⟩ | exact ⟨undef, fun _ => rfl⟩
  apply obl_nil
  intro D y wA hall hW
  rw [hall 19 (by decide)] at hW
  have HT2 : Hid (Bs w [(w.heap.size, .cells #[.int .i64 p.1, .int .i64 x.flow.1, .int .i64 x.rise.1, .int .i64 x.spread.1, .int .i64 (-c.draught), .int .i64 c.cold.2] 72), (w.heap.size + 1, .cells #[.int .i64 p.2, .int .i64 x.flow.2, .int .i64 x.rise.2, .int .i64 x.spread.2, .int .i64 c.draught, .int .i64 c.cold.1] 72)] wA) := hW.bs
  clear hW hall HT1
  go_wp2_with fail
  refine wp_region_inv0 (by kernel_rfl) (by kernel_rfl) (fun D w' => Bs w [(w.heap.size, .cells #[.int .i64 p.1, .int .i64 x.flow.1, .int .i64 x.rise.1, .int .i64 x.spread.1, .int .i64 (-c.draught), .int .i64 c.cold.2] 72), (w.heap.size + 1, .cells #[.int .i64 p.2, .int .i64 x.flow.2, .int .i64 x.rise.2, .int .i64 x.spread.2, .int .i64 c.draught, .int .i64 c.cold.1] 72)] w') HT2.out.drew ?_
  apply obl_det
  case hrun =>
    intro D y wz hW hD R hR
    have HRR := Lib.hid hR
    clear hR
    have HW := Lib.hid hW
    have h1 := HW.out.get 0 rfl
    clear hW hD
    refine wpList_load_row rfl 72 _ rfl _ rfl _ _ _ _ h1 Tryz.underlying72 rfl infoTru ?_
    go_simp
    exact HRR.out _ HW.out
  case hnp => rfl
  case hv => first | exact ⟨_, fun _ => rfl⟩ | exact ⟨undef, fun _ => rfl⟩
  apply obl_det
  case hrun =>
    intro D y wz hW hD R hR
    have HRR := Lib.hid hR
    clear hR
    have HW := Lib.hid hW
    have h1 := HW.out.get 1 rfl
    clear hW hD
    refine wpList_load_row rfl 72 _ rfl _ rfl _ _ _ _ h1 Tryz.underlying72 rfl infoTru ?_
    go_simp
    exact HRR.out _ HW.out
  case hnp => rfl
  case hv => first | exact ⟨_, fun _ => rfl⟩ | exact ⟨undef, fun _ => rfl⟩
  apply obl_det
  case hrun =>
    intro D y wz hW hD R hR
    have HRR := Lib.hid hR
    clear hR
    have HW := Lib.hid hW
    clear hW hD
    refine wpList_store_bs rfl 72 _ _ rfl HW.out 0 _ #[.int .i64 p.1, .int .i64 x.flow.1, .int .i64 x.rise.1, .int .i64 x.spread.1, .int .i64 (-c.draught), .int .i64 c.cold.2] _ _ rfl rfl rfl infoTru rfl (by simp [Value.oneCell']) ?_
    intro w4 hC4
    have HC4 := Lib.hid hC4
    clear hC4
    simp only [Act.put]
    go_simp
    exact HRR.out _ HC4.out
  case hnp => rfl
  case hv => first | exact ⟨_, fun _ => rfl⟩ | exact ⟨undef, fun _ => rfl⟩
  apply obl_det
  case hrun =>
    intro D y wz hW hD R hR
    have HRR := Lib.hid hR
    clear hR
    have HW := Lib.hid hW
    clear hW hD
    refine wpList_store_bs rfl 72 _ _ rfl HW.out 1 _ #[.int .i64 p.2, .int .i64 x.flow.2, .int .i64 x.rise.2, .int .i64 x.spread.2, .int .i64 c.draught, .int .i64 c.cold.1] _ _ rfl rfl rfl infoTru rfl (by simp [Value.oneCell']) ?_
    intro w4 hC4
    have HC4 := Lib.hid hC4
    clear hC4
    simp only [Act.put]
    go_simp
    exact HRR.out _ HC4.out
  case hnp => rfl
  case hv => first | exact ⟨_, fun _ => rfl⟩ | exact ⟨undef, fun _ => rfl⟩
  apply obl_nil
  intro D y wB hall hW
  have HT3 := Lib.hid hW
  clear hW hall HT2
  go_wp2_with fail
  exact bodyPost_ret (results_row2 (fn := Tryz.f59) rfl _ _ _ _ _ _ _ _ _ _ rfl rfl (HT3.out.get 0 rfl) (HT3.out.get 1 rfl) Tryz.underlying72 Tryz.underlying72 rfl rfl infoTru infoTru) rfl ⟨rfl, HT3.out.bel⟩
end Go.Proofs.YtpkggjobdmchlaaGreatDoor
