/- mould.open. -/
import Derived.Test.YtafdagjdpnaddaaW13
import Derived.Laws.ResultCell
namespace Go.Proofs.Ytafdagjdpnaddaa
open Go.RowKit
theorem wpList_build' {P : Program} {ops : Array Oper} {rest : List Oper} {o : Oper} {a : Act} {w : World} {Q : Exit → Act → World → Prop} (hg : o.guard = none) (t : TypeId) (parts : Array (Nat × Operand)) (ho : o.op = .build t parts)
    (cells : Array Value) (hf : P.built t (parts.map fun (i, x) => (i, a.eval x)).toList = some cells)
    (h : wpList P ops Q rest (a.put o.dst (.agg cells)) w) : wpList P ops Q (o :: rest) a w :=
  wpList_build hg t parts ho (by rw [hf]; rfl) (by rw [hf]; exact h)
set_option maxRecDepth 100000 in
theorem results_ct {P : Program} {fn : Func} {p u : Tmp} {ty : TypeId} (h : fn.results = #[.cell p ty, .tmp u]) (tmps : Array Value) (w : World) (g : Nat) (t : TypeId) (cs : Array Value) (fr : Nat × Nat) (d : TypeDesc) (x : Value)
    (hp : tmps.getD p undef = .pointer (some ⟨g, 0, none⟩)) (hx : tmps.getD u undef = x) (hg : w.heap[g]? = some (.cells cs t fr))
    (hu : P.underlying ty = some d) (hd : (match d with | .struct _ | .array _ _ => true | _ => false) = true) (hi : (P.info? ty).map (·.size) = some cs.size) :
    (results fn tmps).run P w = .ok (.tuple #[.agg cs, x]) w := by
  rw [results_cell_tmp h, hp, hx]
  simp [asAddr, run_loadVar_row w g t ty cs fr d hg hu hd hi, Result.andThen]
theorem built102 (m : Mou) (a b : Option Addr) (n c n' c' : Nat) : Try.prog.built 102 [(0, .agg #[.int .i64 m.rings, .int .i64 m.give, .int .i64 m.pl, .int .i64 m.ph, .int .i64 m.wl, .int .i64 m.wh, .int .i64 m.set, .int .i64 m.shrink, .int .i64 m.skin, .int .i64 m.fill, .int .i64 m.gap, .int .i64 m.deep]), (1, .slice a n c), (2, .slice b n' c')] = some #[.int .i64 m.rings, .int .i64 m.give, .int .i64 m.pl, .int .i64 m.ph, .int .i64 m.wl, .int .i64 m.wh, .int .i64 m.set, .int .i64 m.shrink, .int .i64 m.skin, .int .i64 m.fill, .int .i64 m.gap, .int .i64 m.deep, .slice a n c, .slice b n' c'] := by kernel_rfl
theorem info102 : (Try.prog.info? 102).map (·.size) = some 14 := by kernel_rfl
def zero14 : Array Value := #[.int .i64 0, .int .i64 0, .int .i64 0, .int .i64 0, .int .i64 0, .int .i64 0, .int .i64 0, .int .i64 0, .int .i64 0, .int .i64 0, .int .i64 0, .int .i64 0, .slice none 0 0, .slice none 0 0]
set_option maxRecDepth 100000 in
set_option maxHeartbeats 8000000 in
theorem open_bad (m : Mou) (h : checkE m ≠ 0) (w : World) : Calls Try.prog 60 #[.agg #[.int .i64 m.rings, .int .i64 m.give, .int .i64 m.pl, .int .i64 m.ph, .int .i64 m.wl, .int .i64 m.wh, .int .i64 m.set, .int .i64 m.shrink, .int .i64 m.skin, .int .i64 m.fill, .int .i64 m.gap, .int .i64 m.deep]] w fun e w' => e = .returned (.tuple #[.agg zero14, .int .i64 (checkE m)]) ∧ Below w.heap.size w w' := by
  obtain ⟨E, hE⟩ : ∃ E, checkE m = E := ⟨_, rfl⟩
  have HE := Lib.hid hE
  rw [hE] at h ⊢
  have C0 := Lib.hid (((Bs.nil w).push _ rfl (.cells #[.int .i64 m.rings, .int .i64 m.give, .int .i64 m.pl, .int .i64 m.ph, .int .i64 m.wl, .int .i64 m.wh, .int .i64 m.set, .int .i64 m.shrink, .int .i64 m.skin, .int .i64 m.fill, .int .i64 m.gap, .int .i64 m.deep] 25)).push (w.heap.size + 1) (by simp) (.cells zero14 102))
  have hz : (E != 0) = true := by simpa using h
  clear hE h
  go_enter Try.func60, Try.ntmps60
  go_wp2_with fail
  refine (check_any m _).mono ?_
  rintro e w1 ⟨rfl, hbw⟩
  have C1 := Lib.hid (C0.out.call hbw)
  clear hbw C0
  rw [HE.out]
  go_wp2_with (first | refine wpList_load_bs rfl 102 _ rfl C1.out 1 _ _ _ rfl rfl _ Try.underlying102 rfl info102 ?_ | (refine wpList_store_bs rfl 102 _ _ rfl C1.out 1 _ _ _ _ rfl rfl rfl info102 rfl (by simp [zero14, Value.oneCell']) ?_; intro w2 hC2))
  refine bodyPost_ret (v := .tuple #[.agg zero14, .int .i64 E]) (results_ct (fn := Try.f60) rfl _ _ _ _ _ _ _ _ rfl rfl (hC2.get 1 rfl) Try.underlying102 rfl info102) rfl ⟨rfl, hC2.bel⟩
set_option maxRecDepth 100000 in
set_option maxHeartbeats 8000000 in
theorem open_good (m : Mou) (h : checkE m = 0) (w : World) : Calls Try.prog 60 #[.agg #[.int .i64 m.rings, .int .i64 m.give, .int .i64 m.pl, .int .i64 m.ph, .int .i64 m.wl, .int .i64 m.wh, .int .i64 m.set, .int .i64 m.shrink, .int .i64 m.skin, .int .i64 m.fill, .int .i64 m.gap, .int .i64 m.deep]] w fun e w' => ∃ v1 v2, e = .returned (.tuple #[.agg #[.int .i64 m.rings, .int .i64 m.give, .int .i64 m.pl, .int .i64 m.ph, .int .i64 m.wl, .int .i64 m.wh, .int .i64 m.set, .int .i64 m.shrink, .int .i64 m.skin, .int .i64 m.fill, .int .i64 m.gap, .int .i64 m.deep, v1, v2], .int .i64 0]) ∧ FrI w.heap.size w' v1 (whenP m false) ∧ FrI w.heap.size w' v2 (whenP m true) ∧ Below w.heap.size w w' := by
  have HE := Lib.hid h
  have HV := Lib.hid (valid_of_check h)
  have C0 := Lib.hid (((Bs.nil w).push _ rfl (.cells #[.int .i64 m.rings, .int .i64 m.give, .int .i64 m.pl, .int .i64 m.ph, .int .i64 m.wl, .int .i64 m.wh, .int .i64 m.set, .int .i64 m.shrink, .int .i64 m.skin, .int .i64 m.fill, .int .i64 m.gap, .int .i64 m.deep] 25)).push (w.heap.size + 1) (by simp) (.cells zero14 102))
  clear h
  go_enter Try.func60, Try.ntmps60
  go_wp2_with fail
  refine (check_any m _).mono ?_
  rintro e w1 ⟨rfl, hbw⟩
  have C1 := Lib.hid (C0.out.call hbw)
  have c0 := C1.out.cell 0 rfl
  have hw1 : w.heap.size + 1 < w1.heap.size := C1.out.lt 1 rfl
  clear hbw C0
  rw [HE.out]
  go_wp2_with fail
  have C2 := Lib.hid (C1.out.push w1.heap.size rfl (.cells #[.int .i64 m.rings, .int .i64 m.give, .int .i64 m.pl, .int .i64 m.ph, .int .i64 m.wl, .int .i64 m.wh, .int .i64 m.set, .int .i64 m.shrink, .int .i64 m.skin, .int .i64 m.fill, .int .i64 m.gap, .int .i64 m.deep] 85))
  clear c0 C1
  refine wp_region_inv1 (by kernel_rfl) (by kernel_rfl) [15, 17, 18] (fun D y w' => Bs w ([] ++ [(w.heap.size, .cells #[.int .i64 m.rings, .int .i64 m.give, .int .i64 m.pl, .int .i64 m.ph, .int .i64 m.wl, .int .i64 m.wh, .int .i64 m.set, .int .i64 m.shrink, .int .i64 m.skin, .int .i64 m.fill, .int .i64 m.gap, .int .i64 m.deep] 25)] ++ [(w.heap.size + 1, .cells (if D 6 = true then #[.int .i64 m.rings, .int .i64 m.give, .int .i64 m.pl, .int .i64 m.ph, .int .i64 m.wl, .int .i64 m.wh, .int .i64 m.set, .int .i64 m.shrink, .int .i64 m.skin, .int .i64 m.fill, .int .i64 m.gap, .int .i64 m.deep, y 15, y 17] else zero14) 102)] ++ [(w1.heap.size, .cells #[.int .i64 m.rings, .int .i64 m.give, .int .i64 m.pl, .int .i64 m.ph, .int .i64 m.wl, .int .i64 m.wh, .int .i64 m.set, .int .i64 m.shrink, .int .i64 m.skin, .int .i64 m.fill, .int .i64 m.gap, .int .i64 m.deep] 85)]) w' ∧ (D 2 = true → FrI (w1.heap.size + 1) w' (y 15) (whenP m false)) ∧ (D 4 = true → FrI (w1.heap.size + 1) w' (y 17) (whenP m true)) ∧ (D 5 = true → y 18 = .agg #[.int .i64 m.rings, .int .i64 m.give, .int .i64 m.pl, .int .i64 m.ph, .int .i64 m.wl, .int .i64 m.wh, .int .i64 m.set, .int .i64 m.shrink, .int .i64 m.skin, .int .i64 m.fill, .int .i64 m.gap, .int .i64 m.deep, y 15, y 17])) ?_ ?FX ?hFX ?_
  · exact ⟨C2.out.drew, fun h => (by cases h), fun h => (by cases h), fun h => (by cases h)⟩
  case hFX =>
    intro y
    simp only [fill, List.foldl, Act.put, List.setIfInBounds_toArray, List.set]
    exact rfl
  iterate 2
    (apply obl_det
     case hrun =>
       intro D y wz hW hD R hR
       have HRR := Lib.hid hR
       clear hR
       have HW := Lib.hid hW
       have c2 := hW.1.cell 2 rfl
       clear hW hD
       go_wp2
       exact HRR.out _ HW.out
     case hnp => rfl
     case hv => first | exact ⟨_, fun _ => rfl⟩ | exact ⟨undef, fun _ => rfl⟩)
  apply obl_priv 15
  case hd => rfl
  case hp => rfl
  case hrun =>
    intro D y wz hW hD R hR
    have HRR := Lib.hid hR
    clear hR
    have HD6 := Lib.hid (hD.post _ 6 rfl (by kernel_rfl))
    have HD5 := Lib.hid (hD.post _ 5 rfl (by kernel_rfl))
    have HW := Lib.hid hW
    have hzw : w1.heap.size + 1 ≤ wz.heap.size := hW.1.lt 2 rfl
    clear hW hD
    go_wp2_with fail
    refine (when_any false m HV.out _).mono ?_
    rintro e' w8 ⟨v, rfl, hi, hbw⟩
    have HI := Lib.hid (hi.mono hzw)
    have HBW := Lib.hid hbw
    clear hi hbw hzw
    go_wp2_with fail
    refine HRR.out v _ ?_
    have hB := HW.out.1.call HBW.out
    rw [HD6.out] at hB
    refine ⟨?_, ?_, ?_, fun h => ?_⟩
    · show Bs w ([] ++ [(w.heap.size, .cells #[.int .i64 m.rings, .int .i64 m.give, .int .i64 m.pl, .int .i64 m.ph, .int .i64 m.wl, .int .i64 m.wh, .int .i64 m.set, .int .i64 m.shrink, .int .i64 m.skin, .int .i64 m.fill, .int .i64 m.gap, .int .i64 m.deep] 25)] ++ [(w.heap.size + 1, .cells (if D 6 = true then #[.int .i64 m.rings, .int .i64 m.give, .int .i64 m.pl, .int .i64 m.ph, .int .i64 m.wl, .int .i64 m.wh, .int .i64 m.set, .int .i64 m.shrink, .int .i64 m.skin, .int .i64 m.fill, .int .i64 m.gap, .int .i64 m.deep, v, y 17] else zero14) 102)] ++ [(w1.heap.size, .cells #[.int .i64 m.rings, .int .i64 m.give, .int .i64 m.pl, .int .i64 m.ph, .int .i64 m.wl, .int .i64 m.wh, .int .i64 m.set, .int .i64 m.shrink, .int .i64 m.skin, .int .i64 m.fill, .int .i64 m.gap, .int .i64 m.deep] 85)]) w8
      rw [HD6.out]
      exact hB
    · exact fun _ => HI.out
    · exact fun h => (HW.out.2.2.1 h).call HBW.out
    · have h' : D 5 = true := h
      rw [HD5.out] at h'
      cases h'
  apply obl_det
  case hrun =>
    intro D y wz hW hD R hR
    have HRR := Lib.hid hR
    clear hR
    have HW := Lib.hid hW
    have c2 := hW.1.cell 2 rfl
    clear hW hD
    go_wp2
    exact HRR.out _ HW.out
  case hnp => rfl
  case hv => first | exact ⟨_, fun _ => rfl⟩ | exact ⟨undef, fun _ => rfl⟩
  apply obl_priv 17
  case hd => rfl
  case hp => rfl
  case hrun =>
    intro D y wz hW hD R hR
    have HRR := Lib.hid hR
    clear hR
    have HD6 := Lib.hid (hD.post _ 6 rfl (by kernel_rfl))
    have HD5 := Lib.hid (hD.post _ 5 rfl (by kernel_rfl))
    have HW := Lib.hid hW
    have hzw : w1.heap.size + 1 ≤ wz.heap.size := hW.1.lt 2 rfl
    clear hW hD
    go_wp2_with fail
    refine (when_any true m HV.out _).mono ?_
    rintro e' w8 ⟨v, rfl, hi, hbw⟩
    have HI := Lib.hid (hi.mono hzw)
    have HBW := Lib.hid hbw
    clear hi hbw hzw
    go_wp2_with fail
    refine HRR.out v _ ?_
    have hB := HW.out.1.call HBW.out
    rw [HD6.out] at hB
    refine ⟨?_, ?_, ?_, fun h => ?_⟩
    · show Bs w ([] ++ [(w.heap.size, .cells #[.int .i64 m.rings, .int .i64 m.give, .int .i64 m.pl, .int .i64 m.ph, .int .i64 m.wl, .int .i64 m.wh, .int .i64 m.set, .int .i64 m.shrink, .int .i64 m.skin, .int .i64 m.fill, .int .i64 m.gap, .int .i64 m.deep] 25)] ++ [(w.heap.size + 1, .cells (if D 6 = true then #[.int .i64 m.rings, .int .i64 m.give, .int .i64 m.pl, .int .i64 m.ph, .int .i64 m.wl, .int .i64 m.wh, .int .i64 m.set, .int .i64 m.shrink, .int .i64 m.skin, .int .i64 m.fill, .int .i64 m.gap, .int .i64 m.deep, y 15, v] else zero14) 102)] ++ [(w1.heap.size, .cells #[.int .i64 m.rings, .int .i64 m.give, .int .i64 m.pl, .int .i64 m.ph, .int .i64 m.wl, .int .i64 m.wh, .int .i64 m.set, .int .i64 m.shrink, .int .i64 m.skin, .int .i64 m.fill, .int .i64 m.gap, .int .i64 m.deep] 85)]) w8
      rw [HD6.out]
      exact hB
    · exact fun h => (HW.out.2.1 h).call HBW.out
    · exact fun _ => HI.out
    · have h' : D 5 = true := h
      rw [HD5.out] at h'
      cases h'
  apply obl_priv 18
  case hd => rfl
  case hp => rfl
  case hrun =>
    intro D y wz hW hD R hR
    have HRR := Lib.hid hR
    clear hR
    have HD6 := Lib.hid (hD.post _ 6 rfl (by kernel_rfl))
    have HW := Lib.hid hW
    obtain ⟨a1, c1, -, h15, -, -⟩ := hW.2.1 (hD.pre _ 2 rfl (by kernel_rfl))
    obtain ⟨a2, c2, -, h17, -, -⟩ := hW.2.2.1 (hD.pre _ 4 rfl (by kernel_rfl))
    clear hW hD
    refine wpList_build' rfl 102 _ rfl #[.int .i64 m.rings, .int .i64 m.give, .int .i64 m.pl, .int .i64 m.ph, .int .i64 m.wl, .int .i64 m.wh, .int .i64 m.set, .int .i64 m.shrink, .int .i64 m.skin, .int .i64 m.fill, .int .i64 m.gap, .int .i64 m.deep, y 15, y 17] (by
      simp only [List.map_toArray, List.map_cons, List.map_nil]
      have hb : Try.prog.built 102 [(0, .agg #[.int .i64 m.rings, .int .i64 m.give, .int .i64 m.pl, .int .i64 m.ph, .int .i64 m.wl, .int .i64 m.wh, .int .i64 m.set, .int .i64 m.shrink, .int .i64 m.skin, .int .i64 m.fill, .int .i64 m.gap, .int .i64 m.deep]), (1, y 15), (2, y 17)] = some #[.int .i64 m.rings, .int .i64 m.give, .int .i64 m.pl, .int .i64 m.ph, .int .i64 m.wl, .int .i64 m.wh, .int .i64 m.set, .int .i64 m.shrink, .int .i64 m.skin, .int .i64 m.fill, .int .i64 m.gap, .int .i64 m.deep, y 15, y 17] := by
        rw [h15, h17]
        exact built102 _ _ _ _ _ _ _
      exact hb) ?_
    clear h15 h17
    go_wp2
    refine HRR.out (.agg #[.int .i64 m.rings, .int .i64 m.give, .int .i64 m.pl, .int .i64 m.ph, .int .i64 m.wl, .int .i64 m.wh, .int .i64 m.set, .int .i64 m.shrink, .int .i64 m.skin, .int .i64 m.fill, .int .i64 m.gap, .int .i64 m.deep, y 15, y 17]) _ ⟨?_, HW.out.2.1, HW.out.2.2.1, fun _ => rfl⟩
    exact HW.out.1
  apply obl_det
  case hrun =>
    intro D y wz hW hD R hR
    have HRR := Lib.hid hR
    clear hR
    have h6 : D 6 = false := hD.not
    have HW := Lib.hid hW
    have H2 := Lib.hid (hW.2.1 (hD.pre _ 2 rfl (by kernel_rfl)))
    have H4 := Lib.hid (hW.2.2.1 (hD.pre _ 4 rfl (by kernel_rfl)))
    have h18 := hW.2.2.2 (hD.pre _ 5 rfl (by kernel_rfl))
    have hB := hW.1
    rw [h6, if_neg (by simp)] at hB
    have HB := Lib.hid hB
    obtain ⟨a1, c1, -, h15, -, -⟩ := H2.out
    obtain ⟨a2, c2, -, h17, -, -⟩ := H4.out
    have hone : (#[.int .i64 m.rings, .int .i64 m.give, .int .i64 m.pl, .int .i64 m.ph, .int .i64 m.wl, .int .i64 m.wh, .int .i64 m.set, .int .i64 m.shrink, .int .i64 m.skin, .int .i64 m.fill, .int .i64 m.gap, .int .i64 m.deep, y 15, y 17] : Array Value).all (·.oneCell') = true := by rw [h15, h17]; simp [Value.oneCell']
    have HONE := Lib.hid hone
    clear hW hD hB h15 h17 hone h6
    refine wpList_store_row rfl 102 _ _ rfl _ #[.int .i64 m.rings, .int .i64 m.give, .int .i64 m.pl, .int .i64 m.ph, .int .i64 m.wl, .int .i64 m.wh, .int .i64 m.set, .int .i64 m.shrink, .int .i64 m.skin, .int .i64 m.fill, .int .i64 m.gap, .int .i64 m.deep, y 15, y 17] rfl h18 102 _ (HB.out.get 1 rfl) info102 rfl HONE.out ?_
    have HS := Lib.hid (HB.out.setRow 1 rfl #[.int .i64 m.rings, .int .i64 m.give, .int .i64 m.pl, .int .i64 m.ph, .int .i64 m.wl, .int .i64 m.wh, .int .i64 m.set, .int .i64 m.shrink, .int .i64 m.skin, .int .i64 m.fill, .int .i64 m.gap, .int .i64 m.deep, y 15, y 17])
    have HK : Hid (∀ k, w1.heap.size + 1 ≤ k → k < wz.heap.size → (wz.setRow (w.heap.size + 1) #[.int .i64 m.rings, .int .i64 m.give, .int .i64 m.pl, .int .i64 m.ph, .int .i64 m.wl, .int .i64 m.wh, .int .i64 m.set, .int .i64 m.shrink, .int .i64 m.skin, .int .i64 m.fill, .int .i64 m.gap, .int .i64 m.deep, y 15, y 17]).heap[k]? = wz.heap[k]?) := fun k h _ => setRow_other _ _ _ _ (by omega)
    have H18 := Lib.hid h18
    clear h18
    go_wp2
    exact HRR.out _ ⟨HS.out, fun _ => H2.out.keep HK.out, fun _ => H4.out.keep HK.out, fun _ => H18.out⟩
  case hnp => rfl
  case hv => first | exact ⟨_, fun _ => rfl⟩ | exact ⟨undef, fun _ => rfl⟩
  apply obl_det
  case hrun =>
    intro D y wz hW hD R hR
    have HRR := Lib.hid hR
    clear hR
    have HW := Lib.hid hW
    clear hW hD
    go_wp2
    exact HRR.out _ HW.out
  case hnp => rfl
  case hv => first | exact ⟨_, fun _ => rfl⟩ | exact ⟨undef, fun _ => rfl⟩
  apply obl_nil
  intro D y w9 hall hW
  have h6 := hall 6 (by decide)
  have hB := hW.1
  rw [h6, if_pos rfl] at hB
  have HB := Lib.hid hB
  have H2 := Lib.hid (hW.2.1 (hall 2 (by decide)))
  have H4 := Lib.hid (hW.2.2.1 (hall 4 (by decide)))
  clear hB hW hall h6 C2
  generalize y 15 = v1 at H2 H4 HB ⊢
  generalize y 17 = v2 at H2 H4 HB ⊢
  generalize y 18 = v3 at ⊢
  clear D y
  go_wp2_with fail
  refine bodyPost_ret (v := .tuple #[.agg #[.int .i64 m.rings, .int .i64 m.give, .int .i64 m.pl, .int .i64 m.ph, .int .i64 m.wl, .int .i64 m.wh, .int .i64 m.set, .int .i64 m.shrink, .int .i64 m.skin, .int .i64 m.fill, .int .i64 m.gap, .int .i64 m.deep, v1, v2], .int .i64 0]) (results_ct (fn := Try.f60) rfl _ _ _ _ _ _ _ _ rfl rfl (HB.out.get 1 rfl) Try.underlying102 rfl info102) rfl ⟨v1, v2, rfl, H2.out.mono (by omega), H4.out.mono (by omega), HB.out.bel⟩
end Go.Proofs.Ytafdagjdpnaddaa
