/- stearinref03: in, spans; stearinref01.Span. -/
import Derived.Test.YtpkggjobdmchlaaGreatDoorU7
import Derived.Test.YtpkggjobdmchlaaGreatDoorK3
namespace Go.Proofs.YtpkggjobdmchlaaGreatDoor
open Go.RowKit
theorem in3_r (r : Bool) (n lo hi : Int) (w : World) (hr : inB n lo hi = r) : Calls Tryz.prog 19 #[.int .i64 n, .int .i64 lo, .int .i64 hi] w fun e w' => e = .returned (.bool r) ∧ w = w' := by
  subst hr
  unfold inB
  go_enter Tryz.func19, Tryz.ntmps19
  by_cases h : lo ≤ n
  · have h1 : decide (lo ≤ n) = true := by simpa using h
    go_wp2
    all_goals (go_ret; exact ⟨by simp [h], rfl⟩)
  · have h1 : decide (lo ≤ n) = false := by simpa using h
    go_wp2
    all_goals (go_ret; exact ⟨by simp, rfl⟩)
theorem span3_ref (p : Int × Int) (lo hi : Int) (w : World) : Calls Tryz.prog 20 #[.agg #[.int .i64 p.1, .int .i64 p.2], .int .i64 lo, .int .i64 hi] w
    fun e w' => e = .returned (.int .i64 (rangeE lo hi p)) ∧ Below w.heap.size w w' := by
  obtain ⟨x, y⟩ := p
  have C0 := Lib.hid ((Bs.nil w).push _ rfl (.cells #[.int .i64 x, .int .i64 y] 25))
  have HE : Hid (rangeE lo hi (x, y) = if inB x lo hi = false ∨ inB y lo hi = false then 7 else if y < x then 2 else 0) := by
    unfold Hid rangeE
    rw [inB_out, inB_out]
    cases h1 : outOne lo hi x <;> cases h2 : outOne lo hi y <;> simp
  generalize rangeE lo hi (x, y) = E at *
  obtain ⟨r1, hr1⟩ : ∃ r, inB x lo hi = r := ⟨_, rfl⟩
  obtain ⟨r2, hr2⟩ : ∃ r, inB y lo hi = r := ⟨_, rfl⟩
  rw [hr1, hr2] at HE
  have HR1 := Lib.hid hr1
  have HR2 := Lib.hid hr2
  clear hr1 hr2
  go_enter Tryz.func20, Tryz.ntmps20
  go_wp2_with fail
  refine (in1_r r1 _ _ _ _ HR1.out).mono ?_
  rintro e w' ⟨rfl, rfl⟩
  cases r1
  · go_wp2_with fail
    go_ret
    exact ⟨ret_int (by rw [HE.out]; simp), C0.out.bel⟩
  go_wp2_with fail
  refine (in1_r r2 _ _ _ _ HR2.out).mono ?_
  rintro e w' ⟨rfl, rfl⟩
  cases r2
  · go_wp2_with fail
    go_ret
    exact ⟨ret_int (by rw [HE.out]; simp), C0.out.bel⟩
  go_wp2_with fail
  all_goals
    go_ret
    exact ⟨ret_int (by rw [HE.out]; simp; omega), C0.out.bel⟩
theorem IntsIn.atU {q : IntKind} {B : Nat} {w : World} {a : Option Addr} {n c : Nat} {l : List Int} (h : IntsIn q B w (.slice a n c) l) {i : Nat} (hi : i < l.length) : ∃ b o, a = some ⟨b, o, none⟩ ∧ b < B ∧ w.cell? ⟨b, o + i, none⟩ = some (.int q (l.getD i 0)) := by
  obtain ⟨a', c', e, -, h⟩ := h
  cases e
  rcases h with rfl | ⟨b, o, rfl, hb, h⟩
  · simp at hi
  · exact ⟨b, o, rfl, hb, h i hi⟩
/-- The worst of some errors. -/
def worstTo (e : Nat → Int) : Nat → Int
  | 0 => 0
  | k + 1 => if e k = 7 ∨ worstTo e k = 0 then e k else worstTo e k
theorem worst_zero (e : Nat → Int) : ∀ n, worstTo e n = 0 → ∀ i, i < n → e i = 0
  | 0, _, i, hi => absurd hi (by omega)
  | n + 1, h, i, hi => by
    rw [worstTo] at h
    split at h
    · rename_i h1
      have h2 : worstTo e n = 0 := by rcases h1 with h1 | h1; (· omega); (· exact h1)
      by_cases h3 : i = n
      · rw [h3]; exact h
      · exact worst_zero e n h2 i (by omega)
    · rename_i h1
      exact absurd h (fun h => h1 (.inr h))
set_option maxHeartbeats 4000000 in
theorem spans3_ref (l : List (Int × Int)) (los his : List Int) (n : Nat) (h1 : l.length = n) (h2 : los.length = n) (h3 : his.length = n) (v vl vh : Value) (w : World) (hv : SpansIn w.heap.size w v l) (hvl : IntsIn .i64 w.heap.size w vl los) (hvh : IntsIn .i64 w.heap.size w vh his) :
    Calls Tryz.prog 56 #[v, vl, vh] w fun e w' => e = .returned (.int .i64 (worstTo (fun i => rangeE (los.getD i 0) (his.getD i 0) (l.getD i default)) n)) ∧ Below w.heap.size w w' := by
  have HV := Lib.hid hv
  have HVL := Lib.hid hvl
  have HVH := Lib.hid hvh
  obtain ⟨a, c, rfl, -, hl⟩ := sl_shape hv
  obtain ⟨la, lc, rfl, -⟩ := id hvl
  obtain ⟨ha, hc, rfl, -⟩ := id hvh
  clear hv hvl hvh
  have HN := Lib.hid h1
  have HN2 := Lib.hid h2
  have HN3 := Lib.hid h3
  rw [h1] at HV hl ⊢
  rw [h2] at HVL ⊢
  rw [h3] at HVH ⊢
  clear h1 h2 h3
  obtain ⟨F, hF⟩ : ∃ F, (fun i => rangeE (los.getD i 0) (his.getD i 0) (l.getD i default)) = F := ⟨_, rfl⟩
  have HF : Hid (∀ i, rangeE (los.getD i 0) (his.getD i 0) (l.getD i default) = F i) := by subst hF; exact fun i => rfl
  rw [hF]
  clear hF
  go_enter Tryz.func56, Tryz.ntmps56
  go_wp2_with fail
  go_loopw [7, 8] (fun ev iv wr => ∃ k : Nat, ev = .int .i64 (worstTo F k) ∧ iv = .int .i64 k ∧ k ≤ n ∧ Below w.heap.size w wr) (fun _ iv _ => n - (intOf iv).toNat)
  case atStart => exact ⟨0, rfl, rfl, by omega, Below.refl _ _⟩
  case round =>
    obtain ⟨k, rfl, rfl, hk, hb⟩ := hrel
    have CB := Lib.hid hb
    clear hb
    by_cases hlt : k < n
    · obtain ⟨b, o, rfl, hbb, hc1, hc2⟩ := HV.out.at' (i := k) (by rw [HN.out]; exact hlt)
      obtain ⟨b1, o1, rfl, hbb1, hd1⟩ := HVL.out.atU (i := k) (by rw [HN2.out]; exact hlt)
      obtain ⟨b2, o2, rfl, hbb2, he1⟩ := HVH.out.atU (i := k) (by rw [HN3.out]; exact hlt)
      have h1 := (CB.out.cell (p := ⟨b, o + k * 2, none⟩) hbb).trans hc1
      have h2 := (CB.out.cell (p := ⟨b, o + k * 2 + 1, none⟩) hbb).trans hc2
      have h3 := (CB.out.cell (p := ⟨b1, o1 + k, none⟩) hbb1).trans hd1
      have h4 := (CB.out.cell (p := ⟨b2, o2 + k, none⟩) hbb2).trans he1
      have HX := fun w => Lib.hid (span3_ref (l.getD k default) (los.getD k 0) (his.getD k 0) w)
      have HFK := HF.out k
      rw [HFK] at HX
      clear hc1 hc2 hd1 he1 HFK
      have HW : Hid (worstTo F (k + 1) = if F k = 7 ∨ worstTo F k = 0 then F k else worstTo F k) := rfl
      generalize worstTo F k = s at *
      generalize l.getD k default = p at *
      generalize los.getD k 0 = lo at *
      generalize his.getD k 0 = hi at *
      generalize F k = E at *
      have H1 := Lib.hid h1
      have H2 := Lib.hid h2
      have H3 := Lib.hid h3
      have H4 := Lib.hid h4
      have HB1 : Hid (b < wr.heap.size) := Nat.lt_of_lt_of_le hbb CB.out.size
      have HB2 : Hid (b1 < wr.heap.size) := Nat.lt_of_lt_of_le hbb1 CB.out.size
      have HB3 : Hid (b2 < wr.heap.size) := Nat.lt_of_lt_of_le hbb2 CB.out.size
      clear h1 h2 h3 h4 hbb hbb1 hbb2
      go_wp2_with fail
      refine wp_region_inv0 (by kernel_rfl) (by kernel_rfl) (fun D w' => Below wr.heap.size wr w') (Below.refl _ _).drew ?_
      apply obl_det
      case hrun =>
        intro D y wz hW hD R hR
        have HRR := Lib.hid hR
        clear hR
        have HW := Lib.hid hW
        clear hW hD
        go_wp2_with fail
        exact HRR.out _ HW.out
      case hnp => rfl
      case hv => first | exact ⟨_, fun _ => rfl⟩ | exact ⟨undef, fun _ => rfl⟩
      apply obl_det
      case hrun =>
        intro D y wz hW hD R hR
        have HRR := Lib.hid hR
        clear hR
        have HW := Lib.hid hW
        clear hW hD
        go_wp2_with fail
        exact HRR.out _ HW.out
      case hnp => rfl
      case hv => first | exact ⟨_, fun _ => rfl⟩ | exact ⟨undef, fun _ => rfl⟩
      apply obl_det
      case hrun =>
        intro D y wz hW hD R hR
        have HRR := Lib.hid hR
        clear hR
        have HW := Lib.hid hW
        clear hW hD
        go_wp2_with fail
        exact HRR.out _ HW.out
      case hnp => rfl
      case hv => first | exact ⟨_, fun _ => rfl⟩ | exact ⟨undef, fun _ => rfl⟩
      apply obl_det
      case hrun =>
        intro D y wz hW hD R hR
        have HRR := Lib.hid hR
        clear hR
        have HW := Lib.hid hW
        have h1 := (HW.out.cell (p := ⟨b, o + k * 2, none⟩) HB1.out).trans H1.out
        have h2 := (HW.out.cell (p := ⟨b, o + k * 2 + 1, none⟩) HB1.out).trans H2.out
        clear hW hD
        go_wp2_with fail
        exact HRR.out _ HW.out
      case hnp => rfl
      case hv => first | exact ⟨_, fun _ => rfl⟩ | exact ⟨undef, fun _ => rfl⟩
      apply obl_det
      case hrun =>
        intro D y wz hW hD R hR
        have HRR := Lib.hid hR
        clear hR
        have HW := Lib.hid hW
        clear hW hD
        go_wp2_with fail
        exact HRR.out _ HW.out
      case hnp => rfl
      case hv => first | exact ⟨_, fun _ => rfl⟩ | exact ⟨undef, fun _ => rfl⟩
      apply obl_det
      case hrun =>
        intro D y wz hW hD R hR
        have HRR := Lib.hid hR
        clear hR
        have HW := Lib.hid hW
        clear hW hD
        go_wp2_with fail
        exact HRR.out _ HW.out
      case hnp => rfl
      case hv => first | exact ⟨_, fun _ => rfl⟩ | exact ⟨undef, fun _ => rfl⟩
      apply obl_det
      case hrun =>
        intro D y wz hW hD R hR
        have HRR := Lib.hid hR
        clear hR
        have HW := Lib.hid hW
        clear hW hD
        go_wp2_with fail
        exact HRR.out _ HW.out
      case hnp => rfl
      case hv => first | exact ⟨_, fun _ => rfl⟩ | exact ⟨undef, fun _ => rfl⟩
      apply obl_det
      case hrun =>
        intro D y wz hW hD R hR
        have HRR := Lib.hid hR
        clear hR
        have HW := Lib.hid hW
        have h3 := (HW.out.cell (p := ⟨b1, o1 + k, none⟩) HB2.out).trans H3.out
        clear hW hD
        go_wp2_with fail
        exact HRR.out _ HW.out
      case hnp => rfl
      case hv => first | exact ⟨_, fun _ => rfl⟩ | exact ⟨undef, fun _ => rfl⟩
      apply obl_det
      case hrun =>
        intro D y wz hW hD R hR
        have HRR := Lib.hid hR
        clear hR
        have HW := Lib.hid hW
        clear hW hD
        go_wp2_with fail
        exact HRR.out _ HW.out
      case hnp => rfl
      case hv => first | exact ⟨_, fun _ => rfl⟩ | exact ⟨undef, fun _ => rfl⟩
      apply obl_det
      case hrun =>
        intro D y wz hW hD R hR
        have HRR := Lib.hid hR
        clear hR
        have HW := Lib.hid hW
        clear hW hD
        go_wp2_with fail
        exact HRR.out _ HW.out
      case hnp => rfl
      case hv => first | exact ⟨_, fun _ => rfl⟩ | exact ⟨undef, fun _ => rfl⟩
      apply obl_det
      case hrun =>
        intro D y wz hW hD R hR
        have HRR := Lib.hid hR
        clear hR
        have HW := Lib.hid hW
        clear hW hD
        go_wp2_with fail
        exact HRR.out _ HW.out
      case hnp => rfl
      case hv => first | exact ⟨_, fun _ => rfl⟩ | exact ⟨undef, fun _ => rfl⟩
      apply obl_det
      case hrun =>
        intro D y wz hW hD R hR
        have HRR := Lib.hid hR
        clear hR
        have HW := Lib.hid hW
        have h4 := (HW.out.cell (p := ⟨b2, o2 + k, none⟩) HB3.out).trans H4.out
        clear hW hD
        go_wp2_with fail
        exact HRR.out _ HW.out
      case hnp => rfl
      case hv => first | exact ⟨_, fun _ => rfl⟩ | exact ⟨undef, fun _ => rfl⟩
      apply obl_det
      case hrun =>
        intro D y wz hW hD R hR
        have HRR := Lib.hid hR
        clear hR
        have HW := Lib.hid hW
        clear hW hD
        go_wp2_with fail
        refine (HX _).out.mono ?_
        rintro e w' ⟨rfl, hb⟩
        have HW2 := Lib.hid (HW.out.trans (hb.mono HW.out.size))
        clear hb
        go_wp2_with fail
        exact HRR.out _ HW2.out
      case hnp => rfl
      case hv => first | exact ⟨_, fun _ => rfl⟩ | exact ⟨undef, fun _ => rfl⟩
      apply obl_det
      case hrun =>
        intro D y wz hW hD R hR
        have HRR := Lib.hid hR
        clear hR
        have HW := Lib.hid hW
        clear hW hD
        go_wp2_with fail
        exact HRR.out _ HW.out
      case hnp => rfl
      case hv => first | exact ⟨_, fun _ => rfl⟩ | exact ⟨undef, fun _ => rfl⟩
      apply obl_nil
      intro D y w8 hall hW
      have CB := Lib.hid (CB.out.trans (hW.mono CB.out.size))
      clear hall hW H1 H2 H3 H4 HB1 HB2 HB3 HX
      by_cases h7 : E = 7
      · subst h7
        go_wp2_with fail
        refine ⟨⟨k + 1, by rw [HW.out]; simp, by push_cast; rfl, by omega, CB.out⟩, ?_⟩
        simp [intOf]; omega
      · have h7b : (E == 7) = false := by simpa using h7
        have H7 := Lib.hid h7
        clear h7
        by_cases h0 : s = 0
        · subst h0
          go_wp2_with fail
          refine ⟨⟨k + 1, by rw [HW.out]; simp, by push_cast; rfl, by omega, CB.out⟩, ?_⟩
          simp [intOf]; omega
        · have h0b : (s == 0) = false := by simpa using h0
          have H0 := Lib.hid h0
          clear h0
          go_wp2_with fail
          refine ⟨⟨k + 1, by rw [HW.out, if_neg (by simp [H7.out, H0.out])], by push_cast; rfl, by omega, CB.out⟩, ?_⟩
          simp [intOf]; omega
    · obtain rfl : k = n := by omega
      go_wp2_with fail
      go_ret
      exact ⟨rfl, CB.out⟩
end Go.Proofs.YtpkggjobdmchlaaGreatDoor
/- stearinref03: Check, Candle. -/
namespace Go.Proofs.YtpkggjobdmchlaaGreatDoor
open Go.RowKit
theorem allocU (w : World) (o : Obj) : Below w.heap.size w (w.alloc o) := (Below.refl _ _).alloc (Nat.le_refl _) o
theorem wcheck_zero {s : WShop} (h1 : inB (s.wicks.length : Int) 1 12 = true) (h2 : inB (s.waxes.length : Int) 1 6 = true) (h3 : rangeE 0 2000 s.flame = 0) (h4 : rangeE 0 2000 s.pool = 0)
    (h5 : ∀ i, i < s.wicks.length → wickE (s.wicks.take i) (s.wicks.getD i default) = 0) (h6 : ∀ i, i < s.waxes.length → waxE (s.waxes.take i) (s.waxes.getD i default) = 0) : (wcheckV s).2.2 = 0 := by
  rw [inB_out] at h1 h2
  have e1 : outOne 1 12 (s.wicks.length : Int) = false := by simpa using h1
  have e2 : outOne 1 6 (s.waxes.length : Int) = false := by simpa using h2
  have e3 : (findE (wickEs s) 0).2 = 0 := findE_zero.2 (by
    intro e he
    simp only [wickEs, List.mem_map, List.mem_range] at he
    obtain ⟨i, hi, rfl⟩ := he
    exact h5 i hi)
  have e4 : (findE (waxEs s) 0).2 = 0 := findE_zero.2 (by
    intro e he
    simp only [waxEs, List.mem_map, List.mem_range] at he
    obtain ⟨i, hi, rfl⟩ := he
    exact h6 i hi)
  unfold wcheckV
  rw [e1, e2, h3, h4]
  simp [twoE, e3, e4]
theorem named_zero {l : List ByteArray} {n : ByteArray} (h : namedE l n = 0) : nameB n = true ∧ l.any (sameN n) = false := by
  unfold namedE at h
  cases h1 : nameB n
  · rw [h1] at h; simp at h
  · cases h2 : l.any (sameN n)
    · exact ⟨rfl, rfl⟩
    · rw [h1, h2] at h; simp at h
theorem wick_zero {l : List Wick} {x : Wick} (h1 : namedE (l.map (·.name)) x.name = 0) (h2 : inB x.threads 1 100 = true) (h3 : rangeE 1 1000 x.pull = 0) : wickE l x = 0 := by
  obtain ⟨a, b⟩ := named_zero h1
  rw [inB_out] at h2
  have c : outOne 1 100 x.threads = false := by simpa using h2
  rw [List.any_map] at b
  have b' : (l.any fun y => sameN x.name y.name) = false := b
  unfold wickE
  rw [a, b', c, h3]
  simp
theorem wax_zero {l : List Wax} {x : Wax} (h1 : namedE (l.map (·.name)) x.name = 0) (h2 : inB x.chill 0 50 = true) (h3 : worstTo (fun i => rangeE ([1, 1, 1].getD i 0) ([300, 1000, 2000].getD i 0) ([x.flow, x.rise, x.spread].getD i default)) 3 = 0) : waxE l x = 0 := by
  obtain ⟨a, b⟩ := named_zero h1
  rw [inB_out] at h2
  have c : outOne 0 50 x.chill = false := by simpa using h2
  rw [List.any_map] at b
  have b' : (l.any fun y => sameN x.name y.name) = false := b
  have f1 : rangeE 1 300 x.flow = 0 := worst_zero _ _ h3 0 (by omega)
  have f2 : rangeE 1 1000 x.rise = 0 := worst_zero _ _ h3 1 (by omega)
  have f3 : rangeE 1 2000 x.spread = 0 := worst_zero _ _ h3 2 (by omega)
  unfold waxE
  rw [a, b', c, f1, f2, f3]
  simp [twoE]
theorem takeU_snoc {α : Type} (l : List α) (k : Nat) (hk : k < l.length) (d : α) : l.take (k + 1) = l.take k ++ [l.getD k d] := by
  rw [List.take_add_one, List.getElem?_eq_getElem hk]
  simp [List.getD, hk]
theorem ownsRow_strsU {w : World} {base : Nat} {v : Value} {l : List ByteArray} (h : w.ownsRow base 9 1 v l.length (l.map Value.string)) (hl : l.length ≤ 1000) : SlIn rdStr w.heap.size w v l := by
  obtain ⟨_, h⟩ := h
  rcases h with ⟨rfl, h0⟩ | ⟨g, cap, cur, rfl, hb, hg, hn, hm, hc, ht⟩
  · have : l = [] := List.eq_nil_of_length_eq_zero h0
    subst this
    exact ⟨none, 0, rfl, by simp, by simp, .inl rfl⟩
  · refine ⟨_, cap, rfl, by omega, hn, .inr ⟨g, 0, rfl, block_lt hg, fun i hi => ?_⟩⟩
    show w.cell? _ = _
    rw [cell_of_row w g _ _ _ _ hg, Nat.zero_add, rdStr, Nat.mul_one]
    have e : (cur.toList.take (l.length * 1))[i]? = (l.map Value.string)[i]? := by rw [ht]
    rw [List.getElem?_take, if_pos (by omega), List.getElem?_map, List.getElem?_eq_getElem hi] at e
    rw [← Array.getElem?_toList, e, List.getD_eq_getElem?_getD, List.getElem?_eq_getElem hi]; rfl
theorem info9U : ∃ i, Tryz.prog.info? 9 = some i ∧ i.zero = some (.string ByteArray.empty) ∧ i.size = 1 ∧ i.bytes = 16 := by
  obtain ⟨i, h1, h2⟩ := Option.map_eq_some_iff.1 (show (Tryz.prog.info? 9).map (fun i => (i.zero, i.size, i.bytes)) = some (some (.string ByteArray.empty), 1, 16) by kernel_rfl)
  simp only [Prod.mk.injEq] at h2
  exact ⟨i, h1, h2⟩
theorem one_strU (x : ByteArray) : ∀ u ∈ [Value.string x], u.oneCell' = true := fun u hu => by simp at hu; subst hu; rfl
def namesW (s : WShop) (k : Nat) : List ByteArray := (s.wicks.take k).map (·.name)
def namesX (s : WShop) (k : Nat) : List ByteArray := (s.waxes.take k).map (·.name)
theorem namesW_snoc (s : WShop) {k : Nat} (hk : k < s.wicks.length) : namesW s (k + 1) = namesW s k ++ [(s.wicks.getD k default).name] := by
  unfold namesW; rw [takeU_snoc _ k hk default, List.map_append]; rfl
theorem namesX_snoc (s : WShop) {k : Nat} (hk : k < s.waxes.length) : namesX s (k + 1) = namesX s k ++ [(s.waxes.getD k default).name] := by
  unfold namesX; rw [takeU_snoc _ k hk default, List.map_append]; rfl
theorem namesW_len (s : WShop) {k : Nat} (hk : k ≤ s.wicks.length) : (namesW s k).length = k := by unfold namesW; simp; omega
theorem namesX_len (s : WShop) {k : Nat} (hk : k ≤ s.waxes.length) : (namesX s k).length = k := by unfold namesX; simp; omega
theorem nextU_all {p : Nat → Prop} {k : Nat} (h : ∀ i, i < k → p i) (hk : p k) : ∀ i, i < k + 1 → p i := fun i hi => by
  by_cases h1 : i = k
  · rw [h1]; exact hk
  · exact h i (by omega)
theorem Bs.grownU {w0 w w' : World} {l : List (Nat × Obj)} {base sz n : Nat} {e : TypeId} {v : Value} {xs : List Value} (h : Bs w0 l w) (ho : w.ownsRow base e sz v n xs) (hg : w.grownBy w' v.ownBlock) (hb : w0.heap.size ≤ base) (hl : ∀ p ∈ l, ∃ cs t, p.2 = .cells cs t ∧ t ≠ e) : Bs w0 l w' := by
  refine ⟨fun p hp => ?_, h.inc, h.ge, h.bel.trans (grown_below ho hg hb h.bel.size)⟩
  obtain ⟨cs, t, e1, e2⟩ := hl p hp
  have h1 := h.get' p hp
  rw [e1] at h1 ⊢
  exact grown_keep ho hg h1 e2
set_option maxRecDepth 100000 in
set_option maxHeartbeats 16000000 in
/-- Check: with the error 0 all is in order. -/
theorem check3_ref (s : WShop) (vw vx : Value) (w : World) (hv : WShopAt w.heap.size w vw vx s) :
    Calls Tryz.prog 18 #[.agg (wshopC vw vx s)] w fun e w' => ∃ p i E : Int, e = .returned (.tuple #[.int .i64 p, .int .i64 i, .int .i64 E]) ∧ (E = 0 → (wcheckV s).2.2 = 0) ∧ Below w.heap.size w w' := by
  obtain ⟨va, vc, rfl, -, hvl⟩ := sl_shape hv.1
  obtain ⟨xa, xc, rfl, -, hxl⟩ := sl_shape hv.2
  have HV := Lib.hid hv
  clear hv
  obtain ⟨r1, hr1⟩ : ∃ r, inB (s.wicks.length : Int) 1 12 = r := ⟨_, rfl⟩
  obtain ⟨r2, hr2⟩ : ∃ r, inB (s.waxes.length : Int) 1 6 = r := ⟨_, rfl⟩
  have HR1 := Lib.hid hr1
  have HR2 := Lib.hid hr2
  clear hr1 hr2
  have C0 : Hid (Bs w [(w.heap.size, .cells #[.slice va s.wicks.length vc, .slice xa s.waxes.length xc, .int .i64 s.flame.1, .int .i64 s.flame.2, .int .i64 s.pool.1, .int .i64 s.pool.2] 27)] _) := Lib.hid ((Bs.nil w).push _ rfl (.cells #[.slice va s.wicks.length vc, .slice xa s.waxes.length xc, .int .i64 s.flame.1, .int .i64 s.flame.2, .int .i64 s.pool.1, .int .i64 s.pool.2] 27))
  have hc0 := C0.out.cell 0 rfl 0
  have hc1 := C0.out.cell 0 rfl 1
  have hc2 := C0.out.cell 0 rfl 2
  have hc3 := C0.out.cell 0 rfl 3
  have hc4 := C0.out.cell 0 rfl 4
  have hc5 := C0.out.cell 0 rfl 5
  obtain ⟨i0, hi0, hz0, hz1, hz2⟩ := info9U
  have HI0 := Lib.hid hi0
  have HZ0 := Lib.hid hz0
  have HZ1 := Lib.hid hz1
  have HZ2 := Lib.hid hz2
  clear hi0 hz0 hz1 hz2
  go_enter Tryz.func18, Tryz.ntmps18
  go_wp2_with fail
  refine (in3_r r1 _ _ _ _ HR1.out).mono ?_
  rintro e w' ⟨rfl, rfl⟩
  cases r1
  · go_wp2_with fail
    go_ret3
    exact ⟨_, _, _, rfl, fun h => absurd h (by decide), C0.out.bel⟩
  go_wp2_with fail
  refine (in3_r r2 _ _ _ _ HR2.out).mono ?_
  rintro e w' ⟨rfl, rfl⟩
  cases r2
  · go_wp2_with fail
    go_ret3
    exact ⟨_, _, _, rfl, fun h => absurd h (by decide), C0.out.bel⟩
  have hnw : 1 ≤ s.wicks.length ∧ s.wicks.length ≤ 12 := by have h := HR1.out; unfold inB at h; simp at h; omega
  have hnx : 1 ≤ s.waxes.length ∧ s.waxes.length ≤ 6 := by have h := HR2.out; unfold inB at h; simp at h; omega
  have HA := Lib.hid (((SpansIn.cells (n := 2) (l := [s.flame, s.pool]) (heap_alloc_new (w.alloc (.cells #[.slice va s.wicks.length vc, .slice xa s.waxes.length xc, .int .i64 s.flame.1, .int .i64 s.flame.2, .int .i64 s.pool.1, .int .i64 s.pool.2] 27)) (.cells #[.int .i64 s.flame.1, .int .i64 s.flame.2, .int .i64 s.pool.1, .int .i64 s.pool.2] 25)) rfl (by simp) (by intro i hi; have h3 : i = 0 ∨ i = 1 := (by simp at hi; omega); rcases h3 with rfl | rfl <;> exact ⟨rfl, rfl⟩)).next (allocU _ (.cells #[.int .i64 0, .int .i64 0] 3))).next (allocU _ (.cells #[.int .i64 2000, .int .i64 2000] 3)))
  have HL := Lib.hid ((intsIn_blk (n := 2) (l := [0, 0]) (heap_alloc_new ((w.alloc (.cells #[.slice va s.wicks.length vc, .slice xa s.waxes.length xc, .int .i64 s.flame.1, .int .i64 s.flame.2, .int .i64 s.pool.1, .int .i64 s.pool.2] 27)).alloc (.cells #[.int .i64 s.flame.1, .int .i64 s.flame.2, .int .i64 s.pool.1, .int .i64 s.pool.2] 25)) (.cells #[.int .i64 0, .int .i64 0] 3)) rfl (by decide) rfl).next (allocU _ (.cells #[.int .i64 2000, .int .i64 2000] 3)))
  have HH := Lib.hid (intsIn_blk (n := 2) (l := [2000, 2000]) (heap_alloc_new (((w.alloc (.cells #[.slice va s.wicks.length vc, .slice xa s.waxes.length xc, .int .i64 s.flame.1, .int .i64 s.flame.2, .int .i64 s.pool.1, .int .i64 s.pool.2] 27)).alloc (.cells #[.int .i64 s.flame.1, .int .i64 s.flame.2, .int .i64 s.pool.1, .int .i64 s.pool.2] 25)).alloc (.cells #[.int .i64 0, .int .i64 0] 3)) (.cells #[.int .i64 2000, .int .i64 2000] 3)) rfl (by decide) rfl)
  have HSS := Lib.hid (spans3_ref [s.flame, s.pool] [0, 0] [2000, 2000] 2 rfl rfl rfl _ _ _ _ HA.out HL.out HH.out)
  clear HA HL HH
  go_wp2_with fail
  simp only [World.size_alloc] at HSS
  refine HSS.out.mono ?_
  rintro e w1 ⟨rfl, hb⟩
  replace hb : Below ((((w.alloc (.cells #[.slice va s.wicks.length vc, .slice xa s.waxes.length xc, .int .i64 s.flame.1, .int .i64 s.flame.2, .int .i64 s.pool.1, .int .i64 s.pool.2] 27)).alloc (.cells #[.int .i64 s.flame.1, .int .i64 s.flame.2, .int .i64 s.pool.1, .int .i64 s.pool.2] 25)).alloc (.cells #[.int .i64 0, .int .i64 0] 3)).alloc (.cells #[.int .i64 2000, .int .i64 2000] 3)).heap.size ((((w.alloc (.cells #[.slice va s.wicks.length vc, .slice xa s.waxes.length xc, .int .i64 s.flame.1, .int .i64 s.flame.2, .int .i64 s.pool.1, .int .i64 s.pool.2] 27)).alloc (.cells #[.int .i64 s.flame.1, .int .i64 s.flame.2, .int .i64 s.pool.1, .int .i64 s.pool.2] 25)).alloc (.cells #[.int .i64 0, .int .i64 0] 3)).alloc (.cells #[.int .i64 2000, .int .i64 2000] 3)) w1 := by simp only [World.size_alloc]; exact hb
  clear HSS
  have C1 := Lib.hid ((((C0.out.alloc _).alloc _).alloc _).call hb)
  clear hb C0 hc0 hc1 hc2 hc3 hc4 hc5
  obtain ⟨E, hE⟩ : ∃ E, worstTo (fun i => rangeE ([0, 0].getD i 0) ([2000, 2000].getD i 0) ([s.flame, s.pool].getD i default)) 2 = E := ⟨_, rfl⟩
  have HE := Lib.hid hE
  rw [hE]
  clear hE
  by_cases h0 : E = 0
  case neg =>
    have h1 : (E != 0) = true := by simpa using h0
    have HNE := Lib.hid h0
    clear h0
    go_wp2_with fail
    go_ret3
    exact ⟨_, _, _, rfl, fun h => absurd h HNE.out, C1.out.bel⟩
  subst h0
  have HFL : Hid (rangeE 0 2000 s.flame = 0) := worst_zero _ _ HE.out 0 (by omega)
  have HPO : Hid (rangeE 0 2000 s.pool = 0) := worst_zero _ _ HE.out 1 (by omega)
  clear HE
  go_wp2_with fail
  go_loopw [6, 7] (fun tx iv wr => ∃ (k : Nat) (tv : Value), tv = tx ∧ iv = .int .i64 k ∧ k ≤ s.wicks.length ∧ Bs w [(w.heap.size, .cells #[.slice va s.wicks.length vc, .slice xa s.waxes.length xc, .int .i64 s.flame.1, .int .i64 s.flame.2, .int .i64 s.pool.1, .int .i64 s.pool.2] 27)] wr ∧ wr.ownsRow (w.heap.size + 1) 9 1 tv k ((namesW s k).map Value.string) ∧ ∀ i, i < k → wickE (s.wicks.take i) (s.wicks.getD i default) = 0) (fun _ iv _ => s.wicks.length - (intOf iv).toNat)
  case atStart => exact ⟨0, _, rfl, rfl, by omega, C1.out, World.ownsRow_nil _ _ 9 1, fun i hi => absurd hi (by omega)⟩
  case round =>
    clear C1
    obtain ⟨k, tv, rfl, rfl, hk, hbs, hT, hf⟩ := hrel
    have CI := Lib.hid hbs
    have HT := Lib.hid hT
    have HF := Lib.hid hf
    clear hbs hT hf
    have hc0 := CI.out.cell 0 rfl 0
    by_cases hkl : k < s.wicks.length
    · have hki : (k : Int) < (s.wicks.length : Int) := by omega
      have HKX := Lib.hid hkl
      obtain ⟨b, o, he, hbl, hx0, hx1, hx2, hx3, hsz⟩ := HV.out.1.at' hkl
      cases he
      have hy0 := (CI.out.bel.cell (p := ⟨b, o + k * 4, none⟩) hbl).trans hx0
      have hy1 := (CI.out.bel.cell (p := ⟨b, o + k * 4 + 1, none⟩) hbl).trans hx1
      have hy2 := (CI.out.bel.cell (p := ⟨b, o + k * 4 + 2, none⟩) hbl).trans hx2
      have hy3 := (CI.out.bel.cell (p := ⟨b, o + k * 4 + 3, none⟩) hbl).trans hx3
      have HSN2 : Hid ((namesW s (k + 1)).map Value.string = (namesW s k).map Value.string ++ [.string (s.wicks.getD k default).name]) := by unfold Hid; rw [namesW_snoc s hkl, List.map_append]; rfl
      have HLN : Hid ((namesW s k).length = k) := namesW_len s hk
      have HNX : Hid (namedE (namesW s k) (s.wicks.getD k default).name = 0 → inB (s.wicks.getD k default).threads 1 100 = true → rangeE 1 1000 (s.wicks.getD k default).pull = 0 → ∀ i, i < k + 1 → wickE (s.wicks.take i) (s.wicks.getD i default) = 0) := fun a b c => nextU_all HF.out (wick_zero a b c)
      clear hx0 hx1 hx2 hx3 hbl HF
      generalize s.wicks.getD k default = x at *
      have HSZ := Lib.hid hsz
      clear hsz
      obtain ⟨r3, hr3⟩ : ∃ r, inB x.threads 1 100 = r := ⟨_, rfl⟩
      have HR3 := Lib.hid hr3
      clear hr3
      have CQ := Lib.hid ((Bs.nil wr).push _ rfl (.cells #[.string ByteArray.empty, .int .i64 0, .int .i64 0, .int .i64 0] 136))
      go_wp2_with (refine wpList_store_bs rfl 136 _ _ rfl CQ.out 0 _ _ _ _ rfl rfl rfl infoWick rfl (by simp [Value.oneCell']) ?_; intro w5 hC5; have CQ5 : Hid (Bs wr [(wr.heap.size, .cells #[.string x.name, .int .i64 x.threads, .int .i64 x.pull.1, .int .i64 x.pull.2] 136)] w5) := hC5; have C5 : Hid (Bs w [(w.heap.size, .cells #[.slice (some ⟨b, o, none⟩) s.wicks.length vc, .slice xa s.waxes.length xc, .int .i64 s.flame.1, .int .i64 s.flame.2, .int .i64 s.pool.1, .int .i64 s.pool.2] 27), (wr.heap.size, .cells #[.string x.name, .int .i64 x.threads, .int .i64 x.pull.1, .int .i64 x.pull.2] 136)] w5) := Lib.hid ((CI.out.call CQ5.out.bel).snocU (by intro p hp; simp only [List.mem_singleton] at hp; subst hp; exact CI.out.lt 0 rfl) (CQ5.out.get 0 rfl) (Nat.le_of_lt (CI.out.lt 0 rfl))); have HT5 := Lib.hid (ownsRow.below HT.out CQ5.out.bel); clear hC5 CQ CQ5 HT CI hy0 hy1 hy2 hy3 hc0; have hc0 := C5.out.cell 1 rfl 0)
      have HNM : Hid (SlIn rdStr w5.heap.size w5 tv (namesW s k)) := ownsRow_strsU (by rw [HLN.out]; exact HT5.out) (by rw [HLN.out]; omega)
      have HCALL := Lib.hid (named_any (namesW s k) tv x.name w5 HSZ.out HNM.out)
      have HT6 := Lib.hid (HT5.out.alloc (.cells #[.string x.name] 9))
      have C6 := Lib.hid (C5.out.alloc (.cells #[.string x.name] 9))
      have HNW := Lib.hid (heap_alloc_new w5 (.cells #[.string x.name] 9))
      have HLE1 : Hid (w.heap.size + 1 ≤ (w5.alloc (.cells #[.string x.name] 9)).heap.size) := C6.out.lt 0 rfl
      clear HNM HT5 C5
      generalize namedE (namesW s k) x.name = E1 at *
      refine HCALL.out.mono ?_
      rintro e w' ⟨rfl, rfl⟩
      clear HCALL
      by_cases h0 : E1 = 0
      · subst h0
        have HN1 := Lib.hid (HNX.out rfl)
        clear HNX
        go_wp2_with (at_builtin; refine wpList_append_own _ rfl _ _ 134 rfl (w.heap.size + 1) 9 i0 (.string ByteArray.empty) 1 16 Tryz.underlying134 HI0.out HZ0.out HZ1.out HZ2.out rfl (by decide) _ _ _ rfl HT6.out ⟨w5.heap.size, 0, none⟩ 1 1 [.string x.name] rfl rfl (cell_news _ _ _ _ HNW.out) (one_strU _) (by unfold maxLen; omega) (by omega) HLE1.out ?_; intro v' w12 hown12 hgrow12 _; have C7 := Lib.hid (C6.out.grownU HT6.out hgrow12 (by omega) (by intro p hp; simp only [List.mem_cons, List.not_mem_nil, or_false] at hp; rcases hp with rfl | rfl <;> exact ⟨_, _, rfl, by decide⟩)); have HTN := Lib.hid hown12; rw [← HSN2.out] at HTN; clear hown12 hgrow12 HT6 C6 HNW hc0; have hc1 := C7.out.cell 1 rfl 1; have hc2 := C7.out.cell 1 rfl 2; have hc3 := C7.out.cell 1 rfl 3)
        refine (in3_r r3 _ _ _ _ HR3.out).mono ?_
        rintro e w' ⟨rfl, rfl⟩
        cases r3
        · go_wp2_with fail
          go_ret3
          exact ⟨_, _, _, rfl, fun h => absurd h (by decide), C7.out.bel⟩
        have HN2 := Lib.hid (HN1.out HR3.out)
        clear HN1 HR3
        go_wp2_with fail
        refine (span3_ref x.pull 1 1000 _).mono ?_
        rintro e w1 ⟨rfl, hb⟩
        have C7X := C7.out
        have HTX := HTN.out
        generalize rangeE 1 1000 x.pull = E3 at *
        have C8 := Lib.hid (C7X.call hb)
        have HT8 := Lib.hid (ownsRow.below HTX hb)
        clear hb hc1 hc2 hc3 C7 HTN
        by_cases h3 : E3 = 0
        · subst h3
          have HN3 := Lib.hid (HN2.out rfl)
          clear HN2
          go_wp2_with fail
          refine ⟨⟨k + 1, _, rfl, by push_cast; rfl, by omega, C8.out.sub [(w.heap.size, .cells #[.slice (some ⟨b, o, none⟩) s.wicks.length vc, .slice xa s.waxes.length xc, .int .i64 s.flame.1, .int .i64 s.flame.2, .int .i64 s.pool.1, .int .i64 s.pool.2] 27)] (by simp), HT8.out, HN3.out⟩, ?_⟩
          simp [intOf]; omega
        · have h4 : (E3 != 0) = true := by simpa using h3
          have HNE := Lib.hid h3
          clear h3
          go_wp2_with fail
          go_ret3
          exact ⟨_, _, _, rfl, fun h => absurd h HNE.out, C8.out.bel⟩
      · have h1 : (E1 == 0) = false := by simpa using h0
        have h2 : (E1 != 0) = true := by simpa using h0
        have HNE := Lib.hid h0
        clear h0 HNX HR3
        go_wp2_with (at_builtin; refine wpList_append_own _ rfl _ _ 134 rfl (w.heap.size + 1) 9 i0 (.string ByteArray.empty) 1 16 Tryz.underlying134 HI0.out HZ0.out HZ1.out HZ2.out rfl (by decide) _ _ _ rfl HT6.out ⟨w5.heap.size, 0, none⟩ 1 1 [.string x.name] rfl rfl (cell_news _ _ _ _ HNW.out) (one_strU _) (by unfold maxLen; omega) (by omega) HLE1.out ?_; intro v' w12 hown12 hgrow12 _; have C7 := Lib.hid (C6.out.grownU HT6.out hgrow12 (by omega) (by intro p hp; simp only [List.mem_cons, List.not_mem_nil, or_false] at hp; rcases hp with rfl | rfl <;> exact ⟨_, _, rfl, by decide⟩)); have HTN := Lib.hid hown12; rw [← HSN2.out] at HTN; clear hown12 hgrow12 HT6 C6 HNW hc0)
        go_ret3
        exact ⟨_, _, _, rfl, fun h => absurd h HNE.out, C7.out.bel⟩
    · obtain rfl : k = s.wicks.length := by omega
      obtain ⟨W1, hW1⟩ : ∃ W1, W1 = wr := ⟨_, rfl⟩
      subst hW1
      have C2 := Lib.hid CI.out
      have HF1 := Lib.hid HF.out
      clear CI HT hk hkl HF
      go_wp2_with fail
      go_loopw [6, 9] (fun tx iv wr => ∃ (k : Nat) (tv : Value), tv = tx ∧ iv = .int .i64 k ∧ k ≤ s.waxes.length ∧ Bs w [(w.heap.size, .cells #[.slice va s.wicks.length vc, .slice xa s.waxes.length xc, .int .i64 s.flame.1, .int .i64 s.flame.2, .int .i64 s.pool.1, .int .i64 s.pool.2] 27)] wr ∧ wr.ownsRow (w.heap.size + 1) 9 1 tv k ((namesX s k).map Value.string) ∧ ∀ i, i < k → waxE (s.waxes.take i) (s.waxes.getD i default) = 0) (fun _ iv _ => s.waxes.length - (intOf iv).toNat)
      case atStart => exact ⟨0, _, rfl, rfl, by omega, C2.out, World.ownsRow_nil _ _ 9 1, fun i hi => absurd hi (by omega)⟩
      case round =>
        clear C2
        obtain ⟨k, tv, rfl, rfl, hk, hbs, hT, hf⟩ := hrel
        have CI := Lib.hid hbs
        have HT := Lib.hid hT
        have HF := Lib.hid hf
        clear hbs hT hf
        have hc0 := CI.out.cell 0 rfl 1
        by_cases hkl : k < s.waxes.length
        · have hki : (k : Int) < (s.waxes.length : Int) := by omega
          have HKX := Lib.hid hkl
          obtain ⟨b, o, he, hbl, hx0, hx1, hx2, hx3, hx4, hx5, hx6, hx7, hsz⟩ := HV.out.2.at' hkl
          cases he
          have hy0 := (CI.out.bel.cell (p := ⟨b, o + k * 8, none⟩) hbl).trans hx0
          have hy1 := (CI.out.bel.cell (p := ⟨b, o + k * 8 + 1, none⟩) hbl).trans hx1
          have hy2 := (CI.out.bel.cell (p := ⟨b, o + k * 8 + 2, none⟩) hbl).trans hx2
          have hy3 := (CI.out.bel.cell (p := ⟨b, o + k * 8 + 3, none⟩) hbl).trans hx3
          have hy4 := (CI.out.bel.cell (p := ⟨b, o + k * 8 + 4, none⟩) hbl).trans hx4
          have hy5 := (CI.out.bel.cell (p := ⟨b, o + k * 8 + 5, none⟩) hbl).trans hx5
          have hy6 := (CI.out.bel.cell (p := ⟨b, o + k * 8 + 6, none⟩) hbl).trans hx6
          have hy7 := (CI.out.bel.cell (p := ⟨b, o + k * 8 + 7, none⟩) hbl).trans hx7
          have HSN2 : Hid ((namesX s (k + 1)).map Value.string = (namesX s k).map Value.string ++ [.string (s.waxes.getD k default).name]) := by unfold Hid; rw [namesX_snoc s hkl, List.map_append]; rfl
          have HLN : Hid ((namesX s k).length = k) := namesX_len s hk
          have HNX : Hid (namedE (namesX s k) (s.waxes.getD k default).name = 0 → inB (s.waxes.getD k default).chill 0 50 = true → worstTo (fun i => rangeE ([1, 1, 1].getD i 0) ([300, 1000, 2000].getD i 0) ([(s.waxes.getD k default).flow, (s.waxes.getD k default).rise, (s.waxes.getD k default).spread].getD i default)) 3 = 0 → ∀ i, i < k + 1 → waxE (s.waxes.take i) (s.waxes.getD i default) = 0) := fun a b c => nextU_all HF.out (wax_zero a b c)
          clear hx0 hx1 hx2 hx3 hx4 hx5 hx6 hx7 hbl HF
          generalize s.waxes.getD k default = x at *
          have HSZ := Lib.hid hsz
          clear hsz
          obtain ⟨r3, hr3⟩ : ∃ r, inB x.chill 0 50 = r := ⟨_, rfl⟩
          have HR3 := Lib.hid hr3
          clear hr3
          have CQ := Lib.hid ((Bs.nil wr).push _ rfl (.cells #[.string ByteArray.empty, .int .i64 0, .int .i64 0, .int .i64 0, .int .i64 0, .int .i64 0, .int .i64 0, .int .i64 0] 102))
          go_wp2_with (refine wpList_store_bs rfl 102 _ _ rfl CQ.out 0 _ _ _ _ rfl rfl rfl infoWax rfl (by simp [Value.oneCell']) ?_; intro w5 hC5; have CQ5 : Hid (Bs wr [(wr.heap.size, .cells #[.string x.name, .int .i64 x.flow.1, .int .i64 x.flow.2, .int .i64 x.rise.1, .int .i64 x.rise.2, .int .i64 x.spread.1, .int .i64 x.spread.2, .int .i64 x.chill] 102)] w5) := hC5; have C5 : Hid (Bs w [(w.heap.size, .cells #[.slice va s.wicks.length vc, .slice (some ⟨b, o, none⟩) s.waxes.length xc, .int .i64 s.flame.1, .int .i64 s.flame.2, .int .i64 s.pool.1, .int .i64 s.pool.2] 27), (wr.heap.size, .cells #[.string x.name, .int .i64 x.flow.1, .int .i64 x.flow.2, .int .i64 x.rise.1, .int .i64 x.rise.2, .int .i64 x.spread.1, .int .i64 x.spread.2, .int .i64 x.chill] 102)] w5) := Lib.hid ((CI.out.call CQ5.out.bel).snocU (by intro p hp; simp only [List.mem_singleton] at hp; subst hp; exact CI.out.lt 0 rfl) (CQ5.out.get 0 rfl) (Nat.le_of_lt (CI.out.lt 0 rfl))); have HT5 := Lib.hid (ownsRow.below HT.out CQ5.out.bel); clear hC5 CQ CQ5 HT CI hy0 hy1 hy2 hy3 hy4 hy5 hy6 hy7 hc0; have hc0 := C5.out.cell 1 rfl 0)
          have HNM : Hid (SlIn rdStr w5.heap.size w5 tv (namesX s k)) := ownsRow_strsU (by rw [HLN.out]; exact HT5.out) (by rw [HLN.out]; omega)
          have HCALL := Lib.hid (named_any (namesX s k) tv x.name w5 HSZ.out HNM.out)
          have HT6 := Lib.hid (HT5.out.alloc (.cells #[.string x.name] 9))
          have C6 := Lib.hid (C5.out.alloc (.cells #[.string x.name] 9))
          have HNW := Lib.hid (heap_alloc_new w5 (.cells #[.string x.name] 9))
          have HLE1 : Hid (w.heap.size + 1 ≤ (w5.alloc (.cells #[.string x.name] 9)).heap.size) := C6.out.lt 0 rfl
          clear HNM HT5 C5
          generalize namedE (namesX s k) x.name = E1 at *
          refine HCALL.out.mono ?_
          rintro e w' ⟨rfl, rfl⟩
          clear HCALL
          by_cases h0 : E1 = 0
          · subst h0
            have HN1 := Lib.hid (HNX.out rfl)
            clear HNX
            go_wp2_with (at_builtin; refine wpList_append_own _ rfl _ _ 134 rfl (w.heap.size + 1) 9 i0 (.string ByteArray.empty) 1 16 Tryz.underlying134 HI0.out HZ0.out HZ1.out HZ2.out rfl (by decide) _ _ _ rfl HT6.out ⟨w5.heap.size, 0, none⟩ 1 1 [.string x.name] rfl rfl (cell_news _ _ _ _ HNW.out) (one_strU _) (by unfold maxLen; omega) (by omega) HLE1.out ?_; intro v' w12 hown12 hgrow12 _; have C7 := Lib.hid (C6.out.grownU HT6.out hgrow12 (by omega) (by intro p hp; simp only [List.mem_cons, List.not_mem_nil, or_false] at hp; rcases hp with rfl | rfl <;> exact ⟨_, _, rfl, by decide⟩)); have HTN := Lib.hid hown12; rw [← HSN2.out] at HTN; clear hown12 hgrow12 HT6 C6 HNW hc0; have hc1 := C7.out.cell 1 rfl 1; have hc2 := C7.out.cell 1 rfl 2; have hc3 := C7.out.cell 1 rfl 3; have hc4 := C7.out.cell 1 rfl 4; have hc5 := C7.out.cell 1 rfl 5; have hc6 := C7.out.cell 1 rfl 6; have hc7 := C7.out.cell 1 rfl 7)
            refine (in3_r r3 _ _ _ _ HR3.out).mono ?_
            rintro e w' ⟨rfl, rfl⟩
            cases r3
            · go_wp2_with fail
              go_ret3
              exact ⟨_, _, _, rfl, fun h => absurd h (by decide), C7.out.bel⟩
            have HN2 := Lib.hid (HN1.out HR3.out)
            clear HN1 HR3
            have HA := Lib.hid (((SpansIn.cells (n := 3) (l := [x.flow, x.rise, x.spread]) (heap_alloc_new (w12) (.cells #[.int .i64 x.flow.1, .int .i64 x.flow.2, .int .i64 x.rise.1, .int .i64 x.rise.2, .int .i64 x.spread.1, .int .i64 x.spread.2] 25)) rfl (by simp) (by intro i hi; have h3 : i = 0 ∨ i = 1 ∨ i = 2 := (by simp at hi; omega); rcases h3 with rfl | rfl | rfl <;> exact ⟨rfl, rfl⟩)).next (allocU _ (.cells #[.int .i64 1, .int .i64 1, .int .i64 1] 3))).next (allocU _ (.cells #[.int .i64 300, .int .i64 1000, .int .i64 2000] 3)))
            have HL := Lib.hid ((intsIn_blk (n := 3) (l := [1, 1, 1]) (heap_alloc_new ((w12).alloc (.cells #[.int .i64 x.flow.1, .int .i64 x.flow.2, .int .i64 x.rise.1, .int .i64 x.rise.2, .int .i64 x.spread.1, .int .i64 x.spread.2] 25)) (.cells #[.int .i64 1, .int .i64 1, .int .i64 1] 3)) rfl (by decide) rfl).next (allocU _ (.cells #[.int .i64 300, .int .i64 1000, .int .i64 2000] 3)))
            have HH := Lib.hid (intsIn_blk (n := 3) (l := [300, 1000, 2000]) (heap_alloc_new (((w12).alloc (.cells #[.int .i64 x.flow.1, .int .i64 x.flow.2, .int .i64 x.rise.1, .int .i64 x.rise.2, .int .i64 x.spread.1, .int .i64 x.spread.2] 25)).alloc (.cells #[.int .i64 1, .int .i64 1, .int .i64 1] 3)) (.cells #[.int .i64 300, .int .i64 1000, .int .i64 2000] 3)) rfl (by decide) rfl)
            have HSS := Lib.hid (spans3_ref [x.flow, x.rise, x.spread] [1, 1, 1] [300, 1000, 2000] 3 rfl rfl rfl _ _ _ _ HA.out HL.out HH.out)
            clear HA HL HH
            go_wp2_with fail
            simp only [World.size_alloc] at HSS
            refine HSS.out.mono ?_
            rintro e w1 ⟨rfl, hb⟩
            replace hb : Below ((((w12).alloc (.cells #[.int .i64 x.flow.1, .int .i64 x.flow.2, .int .i64 x.rise.1, .int .i64 x.rise.2, .int .i64 x.spread.1, .int .i64 x.spread.2] 25)).alloc (.cells #[.int .i64 1, .int .i64 1, .int .i64 1] 3)).alloc (.cells #[.int .i64 300, .int .i64 1000, .int .i64 2000] 3)).heap.size ((((w12).alloc (.cells #[.int .i64 x.flow.1, .int .i64 x.flow.2, .int .i64 x.rise.1, .int .i64 x.rise.2, .int .i64 x.spread.1, .int .i64 x.spread.2] 25)).alloc (.cells #[.int .i64 1, .int .i64 1, .int .i64 1] 3)).alloc (.cells #[.int .i64 300, .int .i64 1000, .int .i64 2000] 3)) w1 := by simp only [World.size_alloc]; exact hb
            clear HSS
            have C7X := ((C7.out.alloc (.cells #[.int .i64 x.flow.1, .int .i64 x.flow.2, .int .i64 x.rise.1, .int .i64 x.rise.2, .int .i64 x.spread.1, .int .i64 x.spread.2] 25)).alloc (.cells #[.int .i64 1, .int .i64 1, .int .i64 1] 3)).alloc (.cells #[.int .i64 300, .int .i64 1000, .int .i64 2000] 3)
            have HTX := ((HTN.out.alloc (.cells #[.int .i64 x.flow.1, .int .i64 x.flow.2, .int .i64 x.rise.1, .int .i64 x.rise.2, .int .i64 x.spread.1, .int .i64 x.spread.2] 25)).alloc (.cells #[.int .i64 1, .int .i64 1, .int .i64 1] 3)).alloc (.cells #[.int .i64 300, .int .i64 1000, .int .i64 2000] 3)
            generalize worstTo (fun i => rangeE ([1, 1, 1].getD i 0) ([300, 1000, 2000].getD i 0) ([x.flow, x.rise, x.spread].getD i default)) 3 = E3 at *
            have C8 := Lib.hid (C7X.call hb)
            have HT8 := Lib.hid (ownsRow.below HTX hb)
            clear hb hc1 hc2 hc3 hc4 hc5 hc6 hc7 C7 HTN
            by_cases h3 : E3 = 0
            · subst h3
              have HN3 := Lib.hid (HN2.out rfl)
              clear HN2
              go_wp2_with fail
              refine ⟨⟨k + 1, _, rfl, by push_cast; rfl, by omega, C8.out.sub [(w.heap.size, .cells #[.slice va s.wicks.length vc, .slice (some ⟨b, o, none⟩) s.waxes.length xc, .int .i64 s.flame.1, .int .i64 s.flame.2, .int .i64 s.pool.1, .int .i64 s.pool.2] 27)] (by simp), HT8.out, HN3.out⟩, ?_⟩
              simp [intOf]; omega
            · have h4 : (E3 != 0) = true := by simpa using h3
              have HNE := Lib.hid h3
              clear h3
              go_wp2_with fail
              go_ret3
              exact ⟨_, _, _, rfl, fun h => absurd h HNE.out, C8.out.bel⟩
          · have h1 : (E1 == 0) = false := by simpa using h0
            have h2 : (E1 != 0) = true := by simpa using h0
            have HNE := Lib.hid h0
            clear h0 HNX HR3
            go_wp2_with (at_builtin; refine wpList_append_own _ rfl _ _ 134 rfl (w.heap.size + 1) 9 i0 (.string ByteArray.empty) 1 16 Tryz.underlying134 HI0.out HZ0.out HZ1.out HZ2.out rfl (by decide) _ _ _ rfl HT6.out ⟨w5.heap.size, 0, none⟩ 1 1 [.string x.name] rfl rfl (cell_news _ _ _ _ HNW.out) (one_strU _) (by unfold maxLen; omega) (by omega) HLE1.out ?_; intro v' w12 hown12 hgrow12 _; have C7 := Lib.hid (C6.out.grownU HT6.out hgrow12 (by omega) (by intro p hp; simp only [List.mem_cons, List.not_mem_nil, or_false] at hp; rcases hp with rfl | rfl <;> exact ⟨_, _, rfl, by decide⟩)); have HTN := Lib.hid hown12; rw [← HSN2.out] at HTN; clear hown12 hgrow12 HT6 C6 HNW hc0)
            go_ret3
            exact ⟨_, _, _, rfl, fun h => absurd h HNE.out, C7.out.bel⟩
        · obtain rfl : k = s.waxes.length := by omega
          go_wp2_with fail
          go_ret3
          exact ⟨_, _, _, rfl, fun _ => wcheck_zero HR1.out HR2.out HFL.out HPO.out HF1.out HF.out, CI.out.bel⟩
theorem candle_zero {s : WShop} {c : Candle} (h1 : (wcheckV s).2.2 = 0) (h2 : inB c.wax 0 ((s.waxes.length : Int) - 1) = true) (h3 : inB c.dia 1 2000 = true) (h4 : inB c.draught 0 90 = true) (h5 : rangeE 0 300 c.cold = 0) : candleE s c = 0 := by
  rw [inB_out] at h2 h3 h4
  have e2 : outOne 0 ((s.waxes.length : Int) - 1) c.wax = false := by simpa using h2
  have e3 : outOne 1 2000 c.dia = false := by simpa using h3
  have e4 : outOne 0 90 c.draught = false := by simpa using h4
  unfold candleE
  rw [h1, e2, e3, e4, h5]
  simp
set_option maxRecDepth 100000 in
set_option maxHeartbeats 16000000 in
/-- Candle: with the error 0 all is in order. -/
theorem candle3_ref (s : WShop) (c : Candle) (vw vx : Value) (w : World) (hv : WShopAt w.heap.size w vw vx s) :
    Calls Tryz.prog 5 #[.agg (wshopC vw vx s), .agg (candC c)] w fun e w' => ∃ E : Int, e = .returned (.int .i64 E) ∧ (E = 0 → candleE s c = 0) ∧ Below w.heap.size w w' := by
  obtain ⟨va, vc, rfl, -, hvl⟩ := sl_shape hv.1
  obtain ⟨xa, xc, rfl, -, hxl⟩ := sl_shape hv.2
  have HV := Lib.hid hv
  clear hv
  obtain ⟨m, hm⟩ : ∃ m, (s.waxes.length : Int) - 1 = m := ⟨_, rfl⟩
  have HM := Lib.hid hm
  clear hm
  obtain ⟨r1, hr1⟩ : ∃ r, inB c.wax 0 m = r := ⟨_, rfl⟩
  obtain ⟨r2, hr2⟩ : ∃ r, inB c.dia 1 2000 = r := ⟨_, rfl⟩
  obtain ⟨r3, hr3⟩ : ∃ r, inB c.draught 0 90 = r := ⟨_, rfl⟩
  have HR1 := Lib.hid hr1
  have HR2 := Lib.hid hr2
  have HR3 := Lib.hid hr3
  clear hr1 hr2 hr3
  have C0 : Hid (Bs w [(w.heap.size, .cells #[.slice va s.wicks.length vc, .slice xa s.waxes.length xc, .int .i64 s.flame.1, .int .i64 s.flame.2, .int .i64 s.pool.1, .int .i64 s.pool.2] 27), (w.heap.size + 1, .cells #[.int .i64 c.wax, .int .i64 c.dia, .int .i64 c.draught, .int .i64 c.cold.1, .int .i64 c.cold.2] 32)] _) := Lib.hid (((Bs.nil w).push _ rfl (.cells #[.slice va s.wicks.length vc, .slice xa s.waxes.length xc, .int .i64 s.flame.1, .int .i64 s.flame.2, .int .i64 s.pool.1, .int .i64 s.pool.2] 27)).push (w.heap.size + 1) (by simp) (.cells #[.int .i64 c.wax, .int .i64 c.dia, .int .i64 c.draught, .int .i64 c.cold.1, .int .i64 c.cold.2] 32))
  have hc0 := C0.out.cell 0 rfl 0
  have hc1 := C0.out.cell 0 rfl 1
  have hc2 := C0.out.cell 0 rfl 2
  have hc3 := C0.out.cell 0 rfl 3
  have hc4 := C0.out.cell 0 rfl 4
  have hc5 := C0.out.cell 0 rfl 5
  go_enter Tryz.func5, Tryz.ntmps5
  go_wp2_with fail
  refine (check3_ref s _ _ _ ((HV.out.below C0.out.bel).mono C0.out.bel.size)).mono ?_
  rintro e w1 ⟨p, i, E, rfl, hE, hb⟩
  have C1 := Lib.hid (C0.out.call hb)
  have HE := Lib.hid hE
  clear hb hE C0 hc0 hc1 hc2 hc3 hc4 hc5
  by_cases h0 : E = 0
  case neg =>
    have h1 : (E != 0) = true := by simpa using h0
    have HNE := Lib.hid h0
    clear h0
    go_wp2_with fail
    go_ret
    exact ⟨_, rfl, fun h => absurd h HNE.out, C1.out.bel⟩
  subst h0
  have HE0 := Lib.hid (HE.out rfl)
  clear HE
  have hc1 := C1.out.cell 0 rfl 1
  have hk0 := C1.out.cell 1 rfl 0
  have hk1 := C1.out.cell 1 rfl 1
  have hk2 := C1.out.cell 1 rfl 2
  have hk3 := C1.out.cell 1 rfl 3
  have hk4 := C1.out.cell 1 rfl 4
  go_wp2_with fail
  simp only [HM.out]
  refine (in3_r r1 _ _ _ _ HR1.out).mono ?_
  rintro e w' ⟨rfl, rfl⟩
  cases r1
  · go_wp2_with fail
    go_ret
    exact ⟨_, rfl, fun h => absurd h (by decide), C1.out.bel⟩
  go_wp2_with fail
  refine (in3_r r2 _ _ _ _ HR2.out).mono ?_
  rintro e w' ⟨rfl, rfl⟩
  cases r2
  · go_wp2_with fail
    go_ret
    exact ⟨_, rfl, fun h => absurd h (by decide), C1.out.bel⟩
  go_wp2_with fail
  refine (in3_r r3 _ _ _ _ HR3.out).mono ?_
  rintro e w' ⟨rfl, rfl⟩
  cases r3
  · go_wp2_with fail
    go_ret
    exact ⟨_, rfl, fun h => absurd h (by decide), C1.out.bel⟩
  go_wp2_with fail
  refine (span3_ref c.cold 0 300 _).mono ?_
  rintro e w2 ⟨rfl, hb⟩
  have C2 := Lib.hid (C1.out.call hb)
  clear hb
  go_wp2_with fail
  go_ret
  exact ⟨_, rfl, fun h => candle_zero HE0.out (by rw [HM.out]; exact HR1.out) HR2.out HR3.out h, C2.out.bel⟩
end Go.Proofs.YtpkggjobdmchlaaGreatDoor
