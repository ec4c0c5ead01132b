/- stearinlaw02.Wish; rows of parts; blend.blend. -/
import Derived.Deep.Cut
import Derived.Deep.CutBlock
import Derived.Test.YtohglbfeahofhaaGreatD11
namespace Go.Proofs.YtohglbfeahofhaaGreat
open Go.RowKit
def exW : List (Int × Int) := [(4, 5), (0, 20), (0, 1)]
abbrev wishC (v : Value) : Array Value := #[v, .int .i64 560, .int .i64 620, .int .i64 0, .int .i64 140]
theorem infoWish : (Tryz.prog.info? 70).map (·.size) = some 5 := by kernel_rfl
set_option maxHeartbeats 4000000 in
theorem wish_ex (w : World) : Calls Tryz.prog 20 #[] w (fun e w' => ∃ b, e = .returned (.agg (wishC (.slice (some ⟨b, 0, none⟩) 3 3))) ∧ SpansIn w'.heap.size w' (.slice (some ⟨b, 0, none⟩) 3 3) exW ∧ Below w.heap.size w w') := by
  have C0 : Hid (Bs w [(w.heap.size, .cells #[.slice none 0 0, .int .i64 0, .int .i64 0, .int .i64 0, .int .i64 0] 70)] _) := Lib.hid ((Bs.nil w).push _ rfl (.cells #[.slice none 0 0, .int .i64 0, .int .i64 0, .int .i64 0, .int .i64 0] 70))
  go_enter Tryz.func20, Tryz.ntmps20
  go_wp2_with fail
  refine (span2w 4 5 _).mono ?_
  rintro e w1 ⟨rfl, hb⟩
  have C1 := Lib.hid (C0.out.call hb)
  clear hb C0
  go_wp2_with fail
  refine (span2w 0 20 _).mono ?_
  rintro e w2 ⟨rfl, hb⟩
  have C2 := Lib.hid (C1.out.call hb)
  clear hb C1
  go_wp2_with fail
  refine (span2w 0 1 _).mono ?_
  rintro e w3 ⟨rfl, hb⟩
  have C3 := Lib.hid (C2.out.call hb)
  clear hb C2
  have CP := Lib.hid (C3.out.push _ rfl (.cells #[.int .i64 4, .int .i64 5, .int .i64 0, .int .i64 20, .int .i64 0, .int .i64 1] 41))
  go_wp2_with fail
  clear C3
  refine (span2w 560 620 _).mono ?_
  rintro e w4 ⟨rfl, hb⟩
  have C4 := Lib.hid (CP.out.call hb)
  clear hb CP
  go_wp2_with fail
  refine (span2w 0 140 _).mono ?_
  rintro e w5 ⟨rfl, hb⟩
  have C5 := Lib.hid (C4.out.call hb)
  clear hb C4
  go_wp2_with (refine wpList_store_bs rfl 70 _ _ rfl C5.out 0 _ _ _ _ rfl rfl rfl infoWish rfl (by simp [Value.oneCell']) ?_; intro w6 hC; have C6 : Hid (Bs w [(w.heap.size, .cells (wishC (.slice (some ⟨w3.heap.size, 0, none⟩) 3 3)) 70), (w3.heap.size, .cells #[.int .i64 4, .int .i64 5, .int .i64 0, .int .i64 20, .int .i64 0, .int .i64 1] 41)] w6) := hC; clear hC C5)
  refine bodyPost_ret (v := .agg (wishC (.slice (some ⟨w3.heap.size, 0, none⟩) 3 3))) (results_cell_row (fn := Tryz.f20) rfl _ _ _ _ _ _ _ rfl (C6.out.get 0 rfl) Tryz.underlying70 rfl infoWish) rfl ?_
  have H1 := C6.out.get 1 rfl
  refine ⟨_, rfl, ⟨_, _, rfl, by simp [exW], by simp [exW], .inr ⟨_, 0, rfl, block_lt H1, fun i hi => ?_⟩⟩, C6.out.bel⟩
  have h3 : i = 0 ∨ i = 1 ∨ i = 2 := by simp [exW] at hi; omega
  rcases h3 with rfl | rfl | rfl <;> exact ⟨cell_of_row _ _ _ _ _ _ H1, cell_of_row _ _ _ _ _ _ H1⟩
abbrev partC (x : BWax) (u : Value) (n : Int) : Array Value := #[.string x.name, .int .i64 x.price, .int .i64 x.melt.1, .int .i64 x.melt.2, .int .i64 x.shrink.1, .int .i64 x.shrink.2, u, .int .i64 n]
def rdPart : Rd (BWax × Int) where
  sz := 8
  rd B w b o p := ∃ u, SpansIn B w u p.1.curve ∧ ∀ j, j < 8 → w.cell? ⟨b, o + j, none⟩ = (partC p.1 u p.2)[j]?
  below hbb hb h := by
    obtain ⟨u, h1, h2⟩ := h
    exact ⟨u, h1.below hb, fun j hj => (hb.cell (p := ⟨_, _, none⟩) hbb).trans (h2 j hj)⟩
  mono hb h := by
    obtain ⟨u, h1, h2⟩ := h
    exact ⟨u, h1.mono hb, h2⟩
abbrev PartsIn := SlIn rdPart
/-- A row in the middle of a block. -/
def midRow (old : Array Value) (off : Nat) (row : Array Value) : Array Value := (old.toList.take off ++ row.toList ++ (old.toList.drop off).drop row.size).toArray
theorem midRow_size {old row : Array Value} {off : Nat} (h : off + row.size ≤ old.size) : (midRow old off row).size = old.size := by
  unfold midRow; simp; omega
theorem midRow_lt {old row : Array Value} {off j : Nat} (h : off + row.size ≤ old.size) (hj : j < off) : (midRow old off row)[j]? = old[j]? := by
  unfold midRow
  rw [List.getElem?_toArray, List.getElem?_append_left (by simp; omega), List.getElem?_append_left (by simp; omega), List.getElem?_take, if_pos hj]
  simp
theorem midRow_in {old row : Array Value} {off k : Nat} (h : off + row.size ≤ old.size) (hk : k < row.size) : (midRow old off row)[off + k]? = row[k]? := by
  unfold midRow
  rw [List.getElem?_toArray, List.getElem?_append_left (by simp; omega), List.getElem?_append_right (by simp; omega)]
  rw [show off + k - (old.toList.take off).length = k by simp; omega]
  simp
theorem wpList_mid_bsN {P : Program} {ops : Array Oper} {rest : List Oper} {o : Oper} {a : Act} {w0 w : World} {Q : Exit → Act → World → Prop} {l : List (Nat × Obj)} (hgd : o.guard = none) (ty : TypeId) (x y : Operand) (ho : o.op = .store ty x y) (H : Bs w0 l w) (i g off : Nat) (cells old : Array Value) (t : TypeId)
    (hl : l[i]? = some (g, .cells old t)) (hx : a.eval x = .pointer (some ⟨g, off, none⟩)) (hy : a.eval y = .agg cells) (hi : (P.info? ty).map (·.size) = some cells.size) (hoff : off + cells.size ≤ old.size) (h1 : cells.all (·.oneCell') = true)
    (h : ∀ w', Bs w0 (l.set i (g, .cells (midRow old off cells) t)) w' → wpList P ops Q rest (a.put o.dst undef) w') : wpList P ops Q (o :: rest) a w := by
  have hg := H.get i hl
  have e : old = (old.toList.take off ++ old.toList.drop off).toArray := by rw [List.take_append_drop, Array.toArray_toList]
  have hg2 : w.heap[g]? = some (.cells (old.toList.take off ++ old.toList.drop off).toArray t) := by rw [← e]; exact hg
  refine wpList_mid_but hgd ty x y ho g off cells (old.toList.take off) (old.toList.drop off) t hg2 (by rw [List.length_take, Array.length_toList]; omega) hx hy hi (by rw [List.length_drop, Array.length_toList]; omega) h1 ?_
  intro w' hw hb
  exact h w' (H.but i hl hb hw)
structure PInv (l : List BWax) (r : List Int) (B : Nat) (w : World) (k : Nat) (cur : Array Value) : Prop where
  sz : cur.size = l.length * 8
  at' : ∀ i, i < k → ∃ u, SpansIn B w u (l.getD i default).curve ∧ ∀ j, j < 8 → cur[i * 8 + j]? = (partC (l.getD i default) u (r.getD i 0))[j]?
theorem PInv.step {l : List BWax} {r : List Int} {B k : Nat} {w : World} {cur : Array Value} (h : PInv l r B w k cur) (hk : k < l.length) {u : Value} (hu : SpansIn B w u (l.getD k default).curve) : PInv l r B w (k + 1) (midRow cur (k * 8) (partC (l.getD k default) u (r.getD k 0))) := by
  have hs := h.sz
  have hsz : k * 8 + (partC (l.getD k default) u (r.getD k 0)).size ≤ cur.size := by rw [hs]; simp; omega
  refine ⟨by rw [midRow_size hsz, hs], fun i hi => ?_⟩
  by_cases he : i = k
  · subst he
    exact ⟨u, hu, fun j hj => midRow_in hsz (by simpa using hj)⟩
  · obtain ⟨u', h1, h2⟩ := h.at' i (by omega)
    exact ⟨u', h1, fun j hj => by rw [midRow_lt hsz (by omega)]; exact h2 j hj⟩
theorem PInv.parts {l : List BWax} {r : List Int} {B : Nat} {w0 w : World} {cur : Array Value} {g : Nat} (h : PInv l r B w0 l.length cur) (hr : r.length = l.length) (h5 : l.length ≤ 5) (hb : Below B w0 w) (hB : B ≤ w.heap.size) (hg : w.heap[g]? = some (.cells cur 119)) : PartsIn w.heap.size w (.slice (some ⟨g, 0, none⟩) l.length l.length) (l.zip r) := by
  have hl : (l.zip r).length = l.length := by simp; omega
  refine ⟨some ⟨g, 0, none⟩, l.length, by rw [hl], by omega, by omega, .inr ⟨g, 0, rfl, block_lt hg, fun i hi => ?_⟩⟩
  rw [hl] at hi
  obtain ⟨u, h1, h2⟩ := h.at' i hi
  have he : (l.zip r).getD i default = (l.getD i default, r.getD i 0) := by
    rw [List.getD_eq_getElem?_getD, List.getD_eq_getElem?_getD, List.getD_eq_getElem?_getD, List.getElem?_eq_getElem (by omega), List.getElem?_eq_getElem hi, List.getElem?_eq_getElem (show i < r.length by omega)]
    simp
  rw [he]
  refine ⟨u, (h1.below hb).mono hB, fun j hj => ?_⟩
  rw [cell_of_row _ _ _ _ _ _ hg]
  show cur[0 + i * 8 + j]? = _
  rw [Nat.zero_add]
  exact h2 j hj
theorem infoPart' : ∃ i z, Tryz.prog.info? 119 = some i ∧ i.zero = some z ∧ i.size = 8 ∧ i.bytes ≤ 200 := by
  obtain ⟨i, h1, h2⟩ := Option.map_eq_some_iff.1 (show (Tryz.prog.info? 119).map (fun i => (i.zero.isSome, i.size, decide (i.bytes ≤ 200))) = some (true, 8, true) by kernel_rfl)
  simp only [Prod.mk.injEq, decide_eq_true_eq] at h2
  obtain ⟨z, hz⟩ := Option.isSome_iff_exists.1 h2.1
  exact ⟨i, z, h1, hz, h2.2.1, h2.2.2⟩
theorem made_parts : ∃ Z : Nat → Array Value, (∀ n, (Z n).size = n * 8) ∧ ∀ (w : World) (n : Nat), n ≤ 1000 → (Instr.makeSlice 114 (.int .i64 n) (.int .i64 n)).run Tryz.prog w = .ok (.slice (some ⟨w.heap.size, 0, none⟩) n n) (w.alloc (.cells (Z n) 119)) := by
  obtain ⟨i, z, h1, h2, h3, h4⟩ := infoPart'
  refine ⟨fun n => madeCells z.cells (n * 8), fun n => size_madeCells _ _, fun w n hn => ?_⟩
  have hb : (i.bytes : Int) * (n : Int) ≤ 200 * (n : Int) := Int.mul_le_mul_of_nonneg_right (by omega) (by omega)
  have := run_make w 114 119 i z Tryz.underlying114 h1 h2 .i64 .i64 n n (by omega) (by omega) (by omega) (by omega)
  rw [this, h3, Int.toNat_natCast]
set_option maxRecDepth 100000 in
set_option maxHeartbeats 16000000 in
theorem blend_ok (l : List BWax) (r : List Int) (h1 : 1 ≤ l.length) (h5 : l.length ≤ 5) (hr : r.length = l.length) (v rv : Value) (w : World) (hv : BWaxesIn w.heap.size w v l) (hrv : IntsIn .i64 w.heap.size w rv r) :
    Calls Tryz.prog 45 #[v, rv] w fun e w' => e = .returned (.slice (some ⟨w.heap.size, 0, none⟩) l.length l.length) ∧ PartsIn w'.heap.size w' (.slice (some ⟨w.heap.size, 0, none⟩) l.length l.length) (l.zip r) ∧ Below w.heap.size w w' := by
  obtain ⟨a, cap, rfl, hcap, -⟩ := sl_shape hv
  obtain ⟨ra, rcap, rfl, -⟩ := id hrv
  have HV := Lib.hid hv
  have HRV := Lib.hid hrv
  obtain ⟨Z, hZ, hmk⟩ := made_parts
  have HR := Lib.hid hr
  rw [hr] at HRV ⊢
  clear hv hrv hr
  generalize hN : l.length = N at *
  have HNN := Lib.hid hN
  have hmk1 := fun w => hmk w N (by omega)
  have HZ := Lib.hid (hZ N)
  have C0 : Hid (Bs w [(w.heap.size, .cells (Z N) 119)] _) := Lib.hid ((Bs.nil w).push _ rfl (.cells (Z N) 119))
  have HSZ0 : Hid (PInv l r w.heap.size w 0 (Z N)) := ⟨by rw [HZ.out, HNN.out], fun i hi => by omega⟩
  clear hmk hZ hN
  generalize Z N = ZN at *
  go_enter Tryz.func45, Tryz.ntmps45
  go_wp2_with fail
  clear hmk1 HZ
  go_loopw [13] (fun iv wr => ∃ (i : Nat) (cur : Array Value), iv = .int .i64 i ∧ i ≤ N ∧ PInv l r w.heap.size w i cur ∧ Bs w [(w.heap.size, .cells cur 119)] wr) (fun iv _ => N - (intOf iv).toNat)
  case atStart => exact ⟨0, _, rfl, by omega, HSZ0.out, C0.out⟩
  case round =>
    clear C0 HSZ0
    obtain ⟨i, cur, rfl, hi, hp, hbs⟩ := hrel
    have CI := Lib.hid hbs
    have HP := Lib.hid hp
    clear hbs hp
    by_cases hil : i < N
    · have hii : (i : Int) < (N : Int) := by omega
      obtain ⟨b, o, he, hbl, hx0, hsz, hx1, hx2, hx3, hx4, hx5, cu, hx6, hcu⟩ := HV.out.at' (i := i) (by rw [HNN.out]; exact hil)
      cases he
      obtain ⟨rb, ro, he, hrbl, hrx⟩ : ∃ b o, ra = some ⟨b, o, none⟩ ∧ b < w.heap.size ∧ w.cell? ⟨b, o + i, none⟩ = some (.int .i64 (r.getD i 0)) := HRV.out.atU (by rw [HR.out]; exact hil)
      cases he
      obtain ⟨ca, cq, rfl, -, -⟩ := sl_shape hcu
      have HPN := Lib.hid (HP.out.step (by rw [HNN.out]; exact hil) hcu)
      have HSZ : Hid (cur.size = N * 8) := by have := HP.out.sz; rw [HNN.out] at this; exact this
      have hy0 := (CI.out.bel.cell (p := ⟨b, o + i * 7, none⟩) hbl).trans hx0
      have hy1 := (CI.out.bel.cell (p := ⟨b, o + i * 7 + 1, none⟩) hbl).trans hx1
      have hy2 := (CI.out.bel.cell (p := ⟨b, o + i * 7 + 2, none⟩) hbl).trans hx2
      have hy3 := (CI.out.bel.cell (p := ⟨b, o + i * 7 + 3, none⟩) hbl).trans hx3
      have hy4 := (CI.out.bel.cell (p := ⟨b, o + i * 7 + 4, none⟩) hbl).trans hx4
      have hy5 := (CI.out.bel.cell (p := ⟨b, o + i * 7 + 5, none⟩) hbl).trans hx5
      have hy6 := (CI.out.bel.cell (p := ⟨b, o + i * 7 + 6, none⟩) hbl).trans hx6
      clear hx0 hx1 hx2 hx3 hx4 hx5 hx6 hbl hcu hsz
      have HRB := Lib.hid hrbl
      have HRC := Lib.hid hrx
      have HII := Lib.hid hii
      have HIL := Lib.hid hil
      clear hrbl hrx
      generalize l.getD i default = x at *
      generalize r.getD i 0 = n at *
      have CP := Lib.hid (CI.out.push _ rfl (.cells #[.string ByteArray.empty, .int .i64 0, .int .i64 0, .int .i64 0, .int .i64 0, .int .i64 0, .slice none 0 0] 44))
      go_wp2_with (refine wpList_store_bs rfl 44 _ _ rfl CP.out 1 _ _ _ _ rfl rfl rfl infoBW rfl (by simp [Value.oneCell']) ?_; intro w5 hC; have C5 : Hid (Bs w [(w.heap.size, .cells cur 119), (wr.heap.size, .cells (bwaxC x (.slice ca x.curve.length cq)) 44)] w5) := hC; clear hC CP CI hy0 hy1 hy2 hy3 hy4 hy5 hy6)
      go_upto_region 5 with fail
      refine wp_region_inv0 (by kernel_rfl) (by kernel_rfl) (fun D w' => Bs w [(w.heap.size, .cells (bif D 9 then midRow cur (i * 8) (partC x (.slice ca x.curve.length cq) n) else cur) 119), (wr.heap.size, .cells (bwaxC x (.slice ca x.curve.length cq)) 44)] w') C5.out.drew ?_
      iterate 2
        (apply obl_det
         case hrun =>
           intro D y wz hW hD R hR
           have HRR := Lib.hid hR
           clear hR
           have HW := Lib.hid hW
           clear hW hD
           go_wp2
           exact HRR.out _ HW.out
         case hnp => rfl
         case hv => first | exact ⟨_, fun _ => rfl⟩ | exact ⟨undef, fun _ => rfl⟩)
      apply obl_det
      case hrun =>
        intro D y wz hW hD R hR
        have HRR := Lib.hid hR
        clear hR
        have HW := Lib.hid hW
        have h1 := HW.out.get 1 rfl
        clear hW hD
        refine wpList_load_row rfl 44 _ rfl _ rfl _ _ _ _ h1 Tryz.underlying44 rfl infoBW ?_
        go_simp
        exact HRR.out _ HW.out
      case hnp => rfl
      case hv => first | exact ⟨_, fun _ => rfl⟩ | exact ⟨undef, fun _ => rfl⟩
      iterate 2
        (apply obl_det
         case hrun =>
           intro D y wz hW hD R hR
           have HRR := Lib.hid hR
           clear hR
           have HW := Lib.hid hW
           clear hW hD
           go_wp2
           exact HRR.out _ HW.out
         case hnp => rfl
         case hv => first | exact ⟨_, fun _ => rfl⟩ | exact ⟨undef, fun _ => rfl⟩)
      apply obl_det
      case hrun =>
        intro D y wz hW hD R hR
        have HRR := Lib.hid hR
        clear hR
        have HW := Lib.hid hW
        have hii := HII.out
        have hil := HIL.out
        clear hW hD
        go_wp2
        exact HRR.out _ HW.out
      case hnp => rfl
      case hv => first | exact ⟨_, fun _ => rfl⟩ | exact ⟨undef, fun _ => rfl⟩
      apply obl_det
      case hrun =>
        intro D y wz hW hD R hR
        have HRR := Lib.hid hR
        clear hR
        have HW := Lib.hid hW
        have hz := (HW.out.bel.cell (p := ⟨rb, ro + i, none⟩) HRB.out).trans HRC.out
        clear hW hD
        go_wp2
        exact HRR.out _ HW.out
      case hnp => rfl
      case hv => first | exact ⟨_, fun _ => rfl⟩ | exact ⟨undef, fun _ => rfl⟩
      apply obl_det
      case hrun =>
        intro D y wz hW hD R hR
        have HRR := Lib.hid hR
        clear hR
        have HW := Lib.hid hW
        clear hW hD
        go_wp2
        exact HRR.out _ HW.out
      case hnp => rfl
      case hv => first | exact ⟨_, fun _ => rfl⟩ | exact ⟨undef, fun _ => rfl⟩
      apply obl_det
      case hrun =>
        intro D y wz hW hD R hR
        have HRR := Lib.hid hR
        clear hR
        have HW := Lib.hid hW
        have hii := HII.out
        have hil := HIL.out
        clear hW hD
        go_wp2
        exact HRR.out _ HW.out
      case hnp => rfl
      case hv => first | exact ⟨_, fun _ => rfl⟩ | exact ⟨undef, fun _ => rfl⟩
      apply obl_det
      case hrun =>
        intro D y wz hW hD R hR
        have HRR := Lib.hid hR
        clear hR
        have h9 : D 9 = false := hD.not
        rw [h9] at hW
        replace hW : Bs w [(w.heap.size, .cells cur 119), (wr.heap.size, .cells (bwaxC x (.slice ca x.curve.length cq)) 44)] wz := hW
        have HW := Lib.hid hW
        clear hW hD
        refine wpList_mid_bsN rfl 119 _ _ rfl HW.out 0 _ _ (partC x (.slice ca x.curve.length cq) n) _ _ rfl rfl rfl infoPart (by show _ + 8 ≤ _; have := HSZ.out; omega) (by simp [Value.oneCell']) ?_
        intro w' hw'
        go_simp
        exact HRR.out _ hw'
      case hnp => rfl
      case hv => first | exact ⟨_, fun _ => rfl⟩ | exact ⟨undef, fun _ => rfl⟩
      apply obl_nil
      intro D y w8 hall hW
      have C8 : Hid (Bs w [(w.heap.size, .cells (midRow cur (i * 8) (partC x (.slice ca x.curve.length cq) n)) 119)] w8) := by
        have h9 := hall 9 (by decide)
        rw [h9] at hW
        exact hW.sub _ (by simp)
      clear hW hall C5
      go_wp2_with fail
      refine ⟨⟨i + 1, _, by push_cast; rfl, by omega, HPN.out, C8.out⟩, ?_⟩
      simp [intOf]; omega
    · obtain rfl : i = N := by omega
      go_wp2_with fail
      go_ret
      refine ⟨rfl, ?_, CI.out.bel⟩
      have h : PInv l r w.heap.size w l.length cur := by rw [HNN.out]; exact HP.out
      have h2 := h.parts (HR.out.trans HNN.out.symm) (by rw [HNN.out]; exact h5) CI.out.bel CI.out.bel.size (CI.out.get 0 rfl)
      rw [HNN.out] at h2
      exact h2
end Go.Proofs.YtohglbfeahofhaaGreat
