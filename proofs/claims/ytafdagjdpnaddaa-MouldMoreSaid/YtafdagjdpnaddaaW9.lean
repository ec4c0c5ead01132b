/- Lists of spans; mould.joined. -/
import Derived.Test.YtafdagjdpnaddaaAx
import Derived.Test.YtafdagjdpnaddaaW8
namespace Go.Proofs.Ytafdagjdpnaddaa
open Go.RowKit
/-- The slice value reads as these spans. -/
def SpansIn (B : Nat) (w : World) (v : Value) (l : List (Int × Int)) : Prop :=
  ∃ a c, v = .slice a l.length c ∧ l.length ≤ 1000000000000000 ∧ l.length ≤ c ∧ (l = [] ∨ ∃ b o, a = some ⟨b, o, none⟩ ∧ b < B ∧
    ∀ i, i < l.length → w.cell? ⟨b, o + i * 2, none⟩ = some (.int .i64 (l.getD i (0, 0)).1) ∧ w.cell? ⟨b, o + i * 2 + 1, none⟩ = some (.int .i64 (l.getD i (0, 0)).2))
theorem SpansIn.below {B : Nat} {w w' : World} {v : Value} {l : List (Int × Int)} (h : SpansIn B w v l) (hb : Below B w w') : SpansIn B w' v l := by
  obtain ⟨a, c, rfl, hl, hlc, h⟩ := h
  refine ⟨a, c, rfl, hl, hlc, ?_⟩
  rcases h with h | ⟨b, o, rfl, hbb, h⟩
  · exact .inl h
  · exact .inr ⟨b, o, rfl, hbb, fun i hi => ⟨(hb.cell (p := ⟨b, _, none⟩) hbb).trans (h i hi).1, (hb.cell (p := ⟨b, _, none⟩) hbb).trans (h i hi).2⟩⟩
theorem SpansIn.mono {B B' : Nat} {w : World} {v : Value} {l : List (Int × Int)} (h : SpansIn B w v l) (hb : B ≤ B') : SpansIn B' w v l := by
  obtain ⟨a, c, rfl, hl, hlc, h⟩ := h
  refine ⟨a, c, rfl, hl, hlc, ?_⟩
  rcases h with h | ⟨b, o, rfl, hbb, h⟩
  · exact .inl h
  · exact .inr ⟨b, o, rfl, by omega, h⟩

def spCells (l : List (Int × Int)) : List Value := l.flatMap fun p => [.int .i64 p.1, .int .i64 p.2]
theorem spCells_snoc (l : List (Int × Int)) (p : Int × Int) : spCells (l ++ [p]) = spCells l ++ [.int .i64 p.1, .int .i64 p.2] := by simp [spCells]
theorem spCells_at : ∀ (l : List (Int × Int)) (i : Nat), i < l.length → (spCells l)[i * 2]? = some (.int .i64 (l.getD i (0, 0)).1) ∧ (spCells l)[i * 2 + 1]? = some (.int .i64 (l.getD i (0, 0)).2)
  | [], i, h => by simp at h
  | p :: l, 0, _ => by simp [spCells]
  | p :: l, i + 1, h => by
    have := spCells_at l i (by simpa using h)
    have e : spCells (p :: l) = .int .i64 p.1 :: .int .i64 p.2 :: spCells l := rfl
    rw [e, show (i + 1) * 2 = i * 2 + 1 + 1 by omega]
    simpa using this
theorem ownsRow_spans {w : World} {base : Nat} {v : Value} {l : List (Int × Int)} (h : w.ownsRow base 23 2 v l.length (spCells l)) (hl : l.length ≤ 1000) : SpansIn w.heap.size w v l := by
  obtain ⟨_, h⟩ := h
  rcases h with ⟨rfl, h0⟩ | ⟨g, cap, cur, rfl, hb, hg, hn, hm, hc, ht⟩
  · have : l = [] := List.eq_nil_of_length_eq_zero h0
    subst this
    exact ⟨none, 0, rfl, by simp, by simp, .inl rfl⟩
  · have each : ∀ j u, j < l.length * 2 → (spCells l)[j]? = some u → w.cell? ⟨g, 0 + j, none⟩ = some u := by
      intro j u hj hu
      rw [cell_of_row w g _ _ _ _ hg, Nat.zero_add]
      have e : (cur.toList.take (l.length * 2))[j]? = (spCells l)[j]? := by rw [ht]
      rw [List.getElem?_take, if_pos hj] at e
      rw [← Array.getElem?_toList, e, hu]
    refine ⟨_, cap, rfl, by omega, hn, .inr ⟨g, 0, rfl, block_lt hg, fun i hi => ⟨each _ _ (by omega) (spCells_at l i hi).1, ?_⟩⟩⟩
    have := each (i * 2 + 1) _ (by omega) (spCells_at l i hi).2
    rwa [← Nat.add_assoc] at this
theorem info23' : ∃ i, Try.prog.info? 23 = some i ∧ i.zero = some (.agg #[.int .i64 0, .int .i64 0]) ∧ i.size = 2 ∧ i.bytes = 16 := by
  obtain ⟨i, h1, h2⟩ := Option.map_eq_some_iff.1 (show (Try.prog.info? 23).map (fun i => (i.zero, i.size, i.bytes)) = some (some (.agg #[.int .i64 0, .int .i64 0]), 2, 16) by kernel_rfl)
  simp only [Prod.mk.injEq] at h2
  exact ⟨i, h1, h2⟩

/-- A row of spans that the call owns. -/
def OwnSpans (base : Nat) (w : World) (v : Value) (l : List (Int × Int)) : Prop := w.ownsRow base 23 2 v l.length (spCells l)
theorem OwnSpans.spans {base : Nat} {w : World} {v : Value} {l : List (Int × Int)} (h : OwnSpans base w v l) (hl : l.length ≤ 1000) : SpansIn w.heap.size w v l := ownsRow_spans h hl
def RetSp (l : List (Int × Int)) (w : World) (e : Ending) (w' : World) : Prop := ∃ v, e = .returned v ∧ OwnSpans w.heap.size w' v l ∧ Below w.heap.size w w'
theorem two_ints (x y : Int) : ∀ u ∈ [Value.int .i64 x, .int .i64 y], u.oneCell' = true := fun u hu => by simp at hu; rcases hu with rfl | rfl <;> rfl
theorem zip_take (l m : List Int) (k : Nat) (h1 : k < l.length) (h2 : k < m.length) : (l.zip m).take (k + 1) = (l.zip m).take k ++ [(l.getD k 0, m.getD k 0)] := by
  rw [List.take_succ_eq_append_getElem (by simp; omega)]
  congr 2
  simp [List.getD, h1, h2]
theorem SpansIn.next {w w' : World} {v : Value} {l : List (Int × Int)} (h : SpansIn w.heap.size w v l) (hb : Below w.heap.size w w') : SpansIn w'.heap.size w' v l := (h.below hb).mono hb.size
set_option maxRecDepth 100000 in
set_option maxHeartbeats 4000000 in
theorem joined_any (l m : List Int) (hlm : l.length = m.length) (h1000 : l.length ≤ 1000) (v u : Value) (w : World) (hv : IntsIn .i64 w.heap.size w v l) (hu : IntsIn .i64 w.heap.size w u m) :
    Calls Try.prog 58 #[v, u, .func (.func 59) #[] #[]] w (RetSp (l.zip m) w) := by
  have HV := Lib.hid hv
  have HU := Lib.hid hu
  obtain ⟨a, c, rfl, -, -⟩ := hv
  obtain ⟨a2, c2, rfl, -, -⟩ := hu
  rw [← hlm] at HU ⊢
  obtain ⟨n, hn⟩ : ∃ n, l.length = n := ⟨_, rfl⟩
  have HN := Lib.hid hn
  have HM := Lib.hid (hlm.symm.trans hn)
  rw [hn] at HV HU h1000 ⊢
  clear hn hlm
  go_enter Try.func58, Try.ntmps58
  go_wp2
  go_loopw [6, 10] (fun lv kv wr => ∃ k : Nat, k ≤ n ∧ kv = .int .i64 k ∧ wr.ownsRow w.heap.size 23 2 lv k (spCells ((l.zip m).take k)) ∧ Below w.heap.size w wr)
    (fun _ i _ => n - (intOf i).toNat)
  case atStart => exact ⟨0, by omega, rfl, World.ownsRow_nil _ _ _ _, Below.refl _ _⟩
  case round =>
    obtain ⟨k, hk, rfl, ho, hb⟩ := hrel
    have HO := Lib.hid ho
    have CB := Lib.hid hb
    clear ho hb
    by_cases hlt : k < n
    · have hll : k < l.length := by rw [HN.out]; exact hlt
      have hlm' : k < m.length := by rw [HM.out]; exact hlt
      obtain ⟨a', c', hva, -, hc⟩ := HV.out.below CB.out
      simp only [Value.slice.injEq] at hva
      obtain ⟨rfl, -, rfl⟩ := hva
      obtain ⟨b, off, rfl, hbb, hcc⟩ := hc.resolve_left (by intro h; rw [h] at hll; simp at hll)
      obtain ⟨a3, c3, hva, -, hc2⟩ := HU.out.below CB.out
      simp only [Value.slice.injEq] at hva
      obtain ⟨rfl, -, rfl⟩ := hva
      obtain ⟨b2, off2, rfl, hbb2, hcc2⟩ := hc2.resolve_left (by intro h; rw [h] at hlm'; simp at hlm')
      have ck := hcc k hll
      have ck2 := hcc2 k hlm'
      have HZ := Lib.hid (zip_take l m k hll hlm')
      have hki : (k : Int) < (n : Int) := by omega
      have HLT := Lib.hid hlt
      have hws := CB.out.size
      generalize l.getD k 0 = lo at *
      generalize m.getD k 0 = hi at *
      clear hc hc2 hcc hcc2 hll hlm'
      go_wp2_with fail
      refine wp_region_inv1 (by kernel_rfl) (by kernel_rfl) [24, 25, 6] (fun D y w' => AppX wr (w.heap.size) 23 2 (u6) (k) (spCells ((l.zip m).take k)) [.int .i64 lo, .int .i64 hi] (D 11) (D 12) (y 24) (y 25) w' ∧ (D 13 = false → y 6 = u6) ∧ (D 13 = true → y 6 = y 25)) ?_ ?F1 ?hF1 ?_
      · exact ⟨AppX.start HO.out hws, fun _ => rfl, fun h => (by cases h)⟩
      case hF1 =>
        intro y
        simp only [fill, List.foldl, Act.put, List.setIfInBounds_toArray, List.set]
        exact rfl
      apply obl_det
      case hrun =>
        intro D y wz hW hD R hR
        have HRR := Lib.hid hR
        clear hR
        have h15 : D 13 = false := hD.post _ 13 rfl (by kernel_rfl)
        refine wpList_mv rfl _ rfl (u6) (hW.2.1 h15) ?_
        have HW := Lib.hid hW
        clear hW hD
        go_wp2
        exact HRR.out _ HW.out
      case hnp => rfl
      case hv => first | exact ⟨_, fun _ => rfl⟩ | exact ⟨undef, fun _ => rfl⟩
      iterate 9
        (apply obl_det
         case hrun =>
           intro D y wz hW hD R hR
           have HRR := Lib.hid hR
           clear hR
           have HW := Lib.hid hW
           have hc2 := (cellB hW.1.bel).1
           clear hW hD
           go_wp2
           exact HRR.out _ HW.out
         case hnp => rfl
         case hv => first | exact ⟨_, fun _ => rfl⟩ | exact ⟨undef, fun _ => rfl⟩)
      apply obl_det
      case hrun =>
        intro D y wz hW hD R hR
        have HRR := Lib.hid hR
        clear hR
        have HW := Lib.hid hW
        have hc2 := (cellB hW.1.bel).1
        clear hW hD
        go_wp2_with (refine (span_any lo hi _).mono ?_; rintro e w' ⟨rfl, hbw⟩)
        exact HRR.out _ ⟨HW.out.1.call hbw, HW.out.2⟩
      case hnp => rfl
      case hv => first | exact ⟨_, fun _ => rfl⟩ | exact ⟨undef, fun _ => rfl⟩
      apply obl_priv 24
      case hd => rfl
      case hp => rfl
      case hrun =>
        intro D y wz hW hD R hR
        have HRR := Lib.hid hR
        clear hR
        have h13 : D 11 = false := hD.not
        have h14 : D 12 = false := hD.post _ 12 rfl (by kernel_rfl)
        have hA := hW.1
        rw [h13, h14] at hA
        have HA := Lib.hid hA.laid
        have HV := Lib.hid hW.2
        have H14 := Lib.hid h14
        clear hA hW hD h13 h14
        go_wp2
        refine HRR.out (.slice (some ⟨wz.heap.size, 0, none⟩) 1 1) _ ?_
        show AppX wr (w.heap.size) 23 2 (u6) (k) (spCells ((l.zip m).take k)) [.int .i64 lo, .int .i64 hi] true (D 12) (.slice (some ⟨wz.heap.size, 0, none⟩) 1 1) (y 25) _ ∧ (D 13 = false → y 6 = u6) ∧ (D 13 = true → y 6 = y 25)
        rw [H14.out]
        exact ⟨HA.out, HV.out⟩
      apply obl_priv 25
      case hd => rfl
      case hp => rfl
      case hrun =>
        intro D y wz hW hD R hR
        have HRR := Lib.hid hR
        clear hR
        have h14 : D 12 = false := hD.not
        have h13 : D 11 = true := hD.pre _ 11 rfl (by kernel_rfl)
        have h15 : D 13 = false := hD.post _ 13 rfl (by kernel_rfl)
        have hA := hW.1
        rw [h13, h14] at hA
        have HA := Lib.hid hA
        have HV := Lib.hid (hW.2.1 h15)
        have H13 := Lib.hid h13
        have H15 := Lib.hid h15
        have hbase := hA.le
        have ho := hA.row rfl
        obtain ⟨g, hyb, hgc⟩ := hA.lay rfl rfl
        clear hA hW hD h13 h14 h15
        obtain ⟨i0, hi0, hz0, hz1, hz2⟩ := info23'
        refine wpList_append_own _ rfl _ _ 34 rfl (w.heap.size) 23 i0 (.agg #[.int .i64 0, .int .i64 0]) 2 16 Try.underlying34 hi0 hz0 hz1 hz2 rfl (by decide) _ _ _ rfl ho ⟨g, 0, none⟩ 1 1 [.int .i64 lo, .int .i64 hi] hyb rfl (cell_news _ _ _ _ hgc) (two_ints _ _) (by unfold maxLen; omega) (by omega) (by omega) ?_
        intro v' w12 hown12 hgrow12 _
        have HA2 := Lib.hid (HA.out.got hown12 hgrow12)
        clear ho hgc hown12 hgrow12 hi0 hz0 hz1 hz2 hyb
        go_wp2
        refine HRR.out v' _ ?_
        show AppX wr (w.heap.size) 23 2 (u6) (k) (spCells ((l.zip m).take k)) [.int .i64 lo, .int .i64 hi] (D 11) true (y 24) v' _ ∧ (D 13 = false → y 6 = u6) ∧ (D 13 = true → y 6 = v')
        rw [H13.out]
        exact ⟨HA2.out, fun _ => HV.out, fun h => (by rw [H15.out] at h; cases h)⟩
      apply obl_priv 6
      case hd => rfl
      case hp => rfl
      case hrun =>
        intro D y wz hW hD R hR
        have HRR := Lib.hid hR
        clear hR
        have HA := Lib.hid hW.1
        clear hW hD
        go_wp2
        refine HRR.out (y 25) _ ?_
        show AppX wr (w.heap.size) 23 2 (u6) (k) (spCells ((l.zip m).take k)) [.int .i64 lo, .int .i64 hi] (D 11) (D 12) (y 24) (y 25) _ ∧ (true = false → y 25 = u6) ∧ (true = true → y 25 = y 25)
        exact ⟨HA.out, fun h => (by cases h), fun _ => rfl⟩
      apply obl_nil
      intro D y w8 hall hW
      have h14 := hall 12 (by decide)
      have hy := hW.2.2 (hall 13 (by decide))
      have hA := hW.1
      rw [h14] at hA
      have HO8 := Lib.hid (hA.new rfl)
      have C8 := Lib.hid hA.bel
      clear hA hW hall h14
      rw [hy]
      clear hy
      generalize y 25 = yv at HO8 ⊢
      generalize y 24 = yb at ⊢
      have HO9 : Hid (w8.ownsRow w.heap.size 23 2 yv (k + 1) (spCells ((l.zip m).take (k + 1)))) := by
        unfold Hid
        rw [HZ.out, spCells_snoc]
        exact HO8.out
      have C9 := Lib.hid (CB.out.trans (C8.out.mono (Nat.le_refl _)))
      clear HO8 C8 HO CB ck ck2 D y
      go_wp2
      go_roundw
      case rel => exact ⟨k + 1, HLT.out, by go_num, HO9.out, C9.out⟩
      case measure => have := HLT.out; simp [intOf]; omega
    · obtain rfl : k = n := by omega
      go_wp2
      go_ret
      refine ⟨_, rfl, ?_, CB.out⟩
      have ho := HO.out
      have hzl : (l.zip m).length = k := by rw [List.length_zip, HN.out, HM.out, Nat.min_self]
      rw [List.take_of_length_le (by omega)] at ho
      unfold OwnSpans
      rw [hzl]
      exact ho
end Go.Proofs.Ytafdagjdpnaddaa
