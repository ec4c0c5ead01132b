/- StoreWider: the walk. -/
import Derived.Test.YtddapabmfecidaaAW
import Derived.Test.YtddapabmfecidaaDu
import Derived.BigQuiet
import Derived.Lib.MinMax
namespace Go.Proofs.Ytddapabmfecidaa
open Go.RowKit
theorem two_allocs (w : World) (a b : Obj) : ((w.alloc a).alloc b).heap[w.heap.size]? = some a ∧ ((w.alloc a).alloc b).heap[w.heap.size + 1]? = some b := by
  refine ⟨(Below.heap_alloc (w.alloc a) b _ (by simp)).trans (heap_alloc_new w a), ?_⟩
  have := heap_alloc_new (w.alloc a) b
  rwa [World.size_alloc] at this
/-- The worlds of the region that copies the stores into another season. -/
structure DeW (wr : World) (m : Nat) (xs hd5 : List Value) (d6 d9 d10 d11 d12 : Bool) (y42 y45 y46 y9 : Value) (w' : World) : Prop where
  bel : Below wr.heap.size wr w'
  f : d9 = false → d6 = true → ∃ g, y42 = .slice (some ⟨g, 0, none⟩) 0 0 ∧ wr.heap.size ≤ g ∧ w'.heap[g]? = some (.cells #[] 66)
  o : d9 = true → w'.ownsRow wr.heap.size 66 3 y45 m xs
  b : d10 = true → y46 = .agg (hd5 ++ [y45]).toArray
  a : d11 = true → ∃ c, y9 = .pointer (some ⟨c, 0, none⟩) ∧ wr.heap.size ≤ c ∧ w'.heap[c]? = some (.cells (if d12 then (hd5 ++ [y45]).toArray else #[.int .i64 0, .int .i64 0, .int .i64 0, .int .i64 0, .int .i64 0, .slice none 0 0]) 31)
  k10 : d10 = true → d9 = true
  k12 : d12 = true → d10 = true
theorem DeW.call {wr : World} {m : Nat} {xs hd5 : List Value} {d6 d9 d10 d11 d12 : Bool} {y42 y45 y46 y9 : Value} {w' w'' : World} (h : DeW wr m xs hd5 d6 d9 d10 d11 d12 y42 y45 y46 y9 w') (hb : Below w'.heap.size w' w'') : DeW wr m xs hd5 d6 d9 d10 d11 d12 y42 y45 y46 y9 w'' := by
  refine ⟨h.bel.trans (hb.mono h.bel.size), fun e1 e2 => ?_, fun e => ownsRow.below (h.o e) hb, h.b, fun e => ?_, h.k10, h.k12⟩
  · obtain ⟨g, h1, h2, h3⟩ := h.f e1 e2
    exact ⟨g, h1, h2, block_keep h3 hb⟩
  · obtain ⟨c, h1, h2, h3⟩ := h.a e
    exact ⟨c, h1, h2, block_keep h3 hb⟩
theorem fld31 (be d jm t mv : Int) (a : Option Addr) (n c : Nat) (w : World) : (Instr.field 31 (.agg #[.int .i64 be, .int .i64 d, .int .i64 jm, .int .i64 t, .int .i64 mv, .slice a n c]) 2).run Try.prog w = .ok (.slice a n c) w := by kernel_rfl
def otherN : ByteArray := ⟨#[116, 104, 101, 45, 111, 116, 104, 101, 114, 45, 115, 116, 111, 114, 101]⟩
theorem add_flat1 {g o j : Nat} : ((⟨g, o, none⟩ : Addr).add j) = ⟨g, o + j, none⟩ := by unfold Addr.add; split <;> simp_all
theorem built31 (be d jm t mv : Int) (a : Option Addr) (n c : Nat) : Try.prog.built 31 [(0, .agg #[.int .i64 be, .int .i64 d, .int .i64 jm, .int .i64 t]), (1, .int .i64 mv), (2, .slice a n c)] = some #[.int .i64 be, .int .i64 d, .int .i64 jm, .int .i64 t, .int .i64 mv, .slice a n c] := by kernel_rfl
set_option maxRecDepth 100000 in
set_option maxHeartbeats 4000000 in
theorem wider_law (s : Sea) (vs wv : Value) (way : List Int) (x0 x1 x2 x3 x4 : Int) (hx0 : 0 ≤ x0 ∧ x0 ≤ 255) (hx1 : 0 ≤ x1 ∧ x1 ≤ 255) (hx2 : 0 ≤ x2 ∧ x2 ≤ 255) (hx3 : 0 ≤ x3 ∧ x3 ≤ 255) (hx4 : 0 ≤ x4 ∧ x4 ≤ 255) (w : World) (hv : StosIn w.heap.size w vs s.stores) (hw : IntsIn .i64 w.heap.size w wv way) :
    Calls Try.prog 11 #[.agg #[.int .i64 s.bend, .int .i64 s.days, .int .i64 s.jump, .int .i64 s.times, .int .i64 s.move, vs], wv, .agg #[.int .u8 x0, .int .u8 x1, .int .u8 x2, .int .u8 x3, .int .u8 x4]] w (fun e w' => e = .returned (.bool true) ∧ Below w.heap.size w w') := by
  have HV := Lib.hid hv
  have HWV := Lib.hid hw
  obtain ⟨asl, csl, rfl, hsl, hslc, -⟩ := hv
  obtain ⟨aw, cw, rfl, hwl, -⟩ := hw
  have hboth := two_allocs w (.cells #[.int .i64 s.bend, .int .i64 s.days, .int .i64 s.jump, .int .i64 s.times, .int .i64 s.move, .slice asl s.stores.length csl] 31) (.cells #[.int .u8 x0, .int .u8 x1, .int .u8 x2, .int .u8 x3, .int .u8 x4] 68)
  have C0 : Hid (Below w.heap.size w ((w.alloc (.cells #[.int .i64 s.bend, .int .i64 s.days, .int .i64 s.jump, .int .i64 s.times, .int .i64 s.move, .slice asl s.stores.length csl] 31)).alloc (.cells #[.int .u8 x0, .int .u8 x1, .int .u8 x2, .int .u8 x3, .int .u8 x4] 68))) := ((Below.refl _ _).alloc (Nat.le_refl _) _).alloc (by simp) _
  have R0 := Lib.hid hboth.1
  have X0 := Lib.hid hboth.2
  clear hboth
  obtain ⟨h, j, e, hx⟩ : ∃ h j e, riskV s way = (h, j, e) := ⟨_, _, _, rfl⟩
  have hxe := riskV_err s way
  rw [hx] at hxe
  have HX := Lib.hid hx
  have HXE := Lib.hid hxe
  clear hx hxe
  obtain ⟨best, cents, f, hce⟩ : ∃ b c f, cheapV s = (b, c, f) := ⟨_, _, _, rfl⟩
  have HCE := Lib.hid hce
  clear hce
  obtain ⟨ok, hok⟩ : ∃ ok, s.ok = ok := ⟨_, rfl⟩
  have HOK := Lib.hid hok
  clear hok
  go_enter Try.func11, Try.ntmps11
  go_wp2_with fail
  refine (risks_any s _ _ way _ ((HV.out.below C0.out).mono C0.out.size) ((HWV.out.below C0.out).mono C0.out.size)).mono ?_
  rintro e' w1 ⟨rfl, hbw⟩
  have C1 := Lib.hid (C0.out.trans (hbw.mono C0.out.size))
  have R1 := Lib.hid (block_keep R0.out hbw)
  have X1 := Lib.hid (block_keep X0.out hbw)
  clear hbw C0 R0 X0
  rw [HX.out]
  have cs1 := fun i => cell_of_row w1 _ i _ _ _ R1.out
  go_wp2_with fail
  refine (cheap_any s _ _ ((HV.out.below C1.out).mono C1.out.size)).mono ?_
  rintro e' w2 ⟨bv, rfl, hbi, -, hbw⟩
  rw [HCE.out] at hbi ⊢
  have C2 := Lib.hid (C1.out.trans (hbw.mono C1.out.size))
  have R2 := Lib.hid (block_keep R1.out hbw)
  have X2 := Lib.hid (block_keep X1.out hbw)
  clear hbw C1 R1 X1 cs1 hbi
  have cs2 := fun i => cell_of_row w2 _ i _ _ _ R2.out
  go_wp2_with fail
  refine (valid_any s _ _ ((HV.out.below C2.out).mono C2.out.size) _ HOK.out).mono ?_
  rintro e' w3 ⟨rfl, hbw⟩
  have C3 := Lib.hid (C2.out.trans (hbw.mono C2.out.size))
  have R3 := Lib.hid (block_keep R2.out hbw)
  have X3 := Lib.hid (block_keep X2.out hbw)
  clear hbw C2 R2 X2 cs2
  cases ok
  · have hne : (checkV s).2.2 ≠ 0 := by
      intro h
      have := HOK.out
      unfold Sea.ok at this
      rw [h] at this
      cases this
    have he : e = (checkV s).2.2 := by
      rw [(HXE.out : e = openE s way)]
      unfold openE
      rw [if_neg hne]
    have hf : f = (checkV s).2.2 := by
      have := HCE.out
      rw [cheapV_bad hne] at this
      simp only [Prod.mk.injEq] at this
      exact this.2.2.symm
    have hzz : (e != 0) = true := by rw [he]; simpa using hne
    have hze : (f == e) = true := by rw [he, hf]; simp
    clear he hf hne
    go_wp2_with fail
    refine (awake_any _).mono ?_
    rintro e' w4 ⟨rfl, hbw⟩
    have C4 := Lib.hid (C3.out.trans (hbw.mono C3.out.size))
    clear hbw
    go_wp2_with fail
    go_ret
    exact ⟨rfl, C4.out⟩
  · have hchk : (checkV s).2.2 = 0 := by
      have := HOK.out
      unfold Sea.ok at this
      simpa using this
    have HCH := Lib.hid hchk
    have HG := Lib.hid (good_of_ok hchk)
    have hst := HG.out.stores
    have hl8 := HG.out.len
    have hr0 : 0 ≤ x0 % 10 ∧ x0 % 10 < 10 := ⟨Int.emod_nonneg x0 (by decide), Int.emod_lt_of_pos x0 (by decide)⟩
    have hr1 : 0 ≤ x1 % 10 ∧ x1 % 10 < 10 := ⟨Int.emod_nonneg x1 (by decide), Int.emod_lt_of_pos x1 (by decide)⟩
    obtain ⟨le, hle⟩ : ∃ v, x0 % 10 = v := ⟨_, rfl⟩
    obtain ⟨mo, hmo⟩ : ∃ v, x1 % 10 = v := ⟨_, rfl⟩
    rw [hle] at hr0
    rw [hmo] at hr1
    have cs3 := fun i => cell_of_row w3 _ i _ _ _ R3.out
    have cx3 := fun i => cell_of_row w3 _ i _ _ _ X3.out
    have hwide := risk_wide hchk hr0.1 hr1.1 way
    obtain ⟨a1, b1, e1, hwr⟩ : ∃ a b c, riskV (chS s le mo) way = (a, b, c) := ⟨_, _, _, rfl⟩
    rw [hwr, HX.out] at hwide
    simp only at hwide
    obtain ⟨rfl, hah, hbj⟩ := hwide
    have HWR := Lib.hid hwr
    clear hwr hchk
    go_wp2_with fail
    have hca := changed_any s HG.out (.slice asl s.stores.length csl) le mo (by omega) (by omega) w3 ((HV.out.below C3.out).mono C3.out.size)
    clear hle hmo
    refine hca.mono ?_
    rintro e' w4 ⟨fv, rfl, hfv, hbw⟩
    have C4 := Lib.hid (C3.out.trans (hbw.mono C3.out.size))
    have R4 := Lib.hid (block_keep R3.out hbw)
    have X4 := Lib.hid (block_keep X3.out hbw)
    have HFV := Lib.hid hfv
    clear hbw C3 R3 X3 cs3 cx3 hfv hca
    go_wp2_with fail
    have hc := risks_any (chS s le mo) fv (.slice aw way.length cw) way w4 HFV.out ((HWV.out.below C4.out).mono C4.out.size)
    rw [HWR.out] at hc
    refine hc.mono ?_
    rintro e' w5 ⟨rfl, hbw⟩
    have C5 := Lib.hid (C4.out.trans (hbw.mono C4.out.size))
    have R5 := Lib.hid (block_keep R4.out hbw)
    have X5 := Lib.hid (block_keep X4.out hbw)
    clear hbw hc C4 R4 X4 HFV
    have hq1 : decide (a1 < h) = false := decide_eq_false (by omega)
    have hq2 : decide (b1 < j) = false := decide_eq_false (by omega)
    obtain ⟨qe, hqe⟩ : ∃ q, (e1 == 0) = q := ⟨_, rfl⟩
    have hqq : (qe != qe) = false := by simp
    have cs5 := fun i => cell_of_row w5 _ i _ _ _ R5.out
    by_cases h3 : s.stores.length = 3
    · have hq3 : ((s.stores.length : Int) == 3) = true := by rw [h3]; rfl
      have H3 := Lib.hid h3
      clear h3
      go_wp2_with fail
      refine (awake_any _).mono ?_
      rintro e' w6 ⟨rfl, hbw⟩
      have C6 := Lib.hid (C5.out.trans (hbw.mono C5.out.size))
      clear hbw
      go_wp2_with fail
      go_ret
      exact ⟨rfl, C6.out⟩
    · have hq3 : ((s.stores.length : Int) == 3) = false := by rw [beq_eq_false_iff_ne]; omega
      go_upto_region 10 with fail
      clear hq1 hq2 hq3 hqq hqe cs5
      have hst2 := (HV.out.below C5.out)
      obtain ⟨bs, os, cs', hvv, -, -, -, -, -, -, -, -⟩ := HV.out.at (i := 0) (by omega)
      simp only [Value.slice.injEq] at hvv
      obtain ⟨rfl, -, rfl⟩ := hvv
      obtain ⟨us, hus, hbs, hcells, hsp⟩ := stos_cells hst2 (by omega)
      have HUS := Lib.hid hus
      have HSP := Lib.hid hsp
      have HCL := Lib.hid hcells
      have hbs2 : bs < w5.heap.size := Nat.lt_of_lt_of_le hbs C5.out.size
      have hsl3 : (stoCells s.stores us).length = s.stores.length * 3 := stoCells_len _ _ hus.symm
      have hone : ∀ u ∈ stoCells s.stores us, u.oneCell' = true := by
        intro u hu
        unfold stoCells at hu
        obtain ⟨p, hp, hu⟩ := List.mem_flatMap.1 hu
        obtain ⟨i, hi, hpi⟩ := List.getElem_of_mem hp
        have hzl : i < s.stores.length := by
          rw [List.length_zip] at hi; omega
        have hp2 : p.2 = us.getD i (.bool false) := by
          rw [← hpi, List.getElem_zip, List.getD_eq_getElem?_getD, List.getElem?_eq_getElem (by omega)]
          rfl
        obtain ⟨a, c, hsl, -⟩ := (hsp i hzl).2
        simp only [List.mem_cons, List.not_mem_nil, or_false] at hu
        rcases hu with rfl | rfl | rfl
        · rfl
        · rfl
        · rw [hp2, hsl]; rfl
      have HONE := Lib.hid hone
      clear hcells hsp hone hus hst2
      refine wp_region_inv1 (by kernel_rfl) (by kernel_rfl) [90, 93, 94, 16] (fun D y w' => DeW w5 s.stores.length (stoCells s.stores us) [.int .i64 s.bend, .int .i64 s.days, .int .i64 s.jump, .int .i64 s.times, .int .i64 s.move] (D 4) (D 7) (D 8) (D 9) (D 10) (y 90) (y 93) (y 94) (y 16) w') ?_ ?Fy ?hFy ?_
      · exact ⟨(Below.refl _ _).drew, fun _ h => (by cases h), fun h => (by cases h), fun h => (by cases h), fun h => (by cases h), fun h => (by cases h), fun h => (by cases h)⟩
      case hFy =>
        intro y
        simp only [fill, List.foldl, Act.put, List.setIfInBounds_toArray, List.set]
        exact rfl
      apply obl_det
      case hrun =>
        intro D y wz hW hD R hR
        have HRR := Lib.hid hR
        have HW := Lib.hid hW
        have cz := fun i => cell_of_row wz _ i _ _ _ (block_keep R5.out HW.out.bel)
        clear hR hD hW
        go_wp2
        exact HRR.out _ HW.out
      case hnp => rfl
      case hv => first | exact ⟨_, fun _ => rfl⟩ | exact ⟨undef, fun _ => rfl⟩
      apply obl_det
      case hrun =>
        intro D y wz hW hD R hR
        have HRR := Lib.hid hR
        have HW := Lib.hid hW
        have cz := fun i => cell_of_row wz _ i _ _ _ (block_keep R5.out HW.out.bel)
        clear hR hD hW
        go_wp2
        exact HRR.out _ HW.out
      case hnp => rfl
      case hv => first | exact ⟨_, fun _ => rfl⟩ | exact ⟨undef, fun _ => rfl⟩
      apply obl_det
      case hrun =>
        intro D y wz hW hD R hR
        have HRR := Lib.hid hR
        have HW := Lib.hid hW
        have cz := fun i => cell_of_row wz _ i _ _ _ (block_keep R5.out HW.out.bel)
        clear hR hD hW
        go_wp2
        exact HRR.out _ HW.out
      case hnp => rfl
      case hv => first | exact ⟨_, fun _ => rfl⟩ | exact ⟨undef, fun _ => rfl⟩
      apply obl_det
      case hrun =>
        intro D y wz hW hD R hR
        have HRR := Lib.hid hR
        have HW := Lib.hid hW
        have cz := fun i => cell_of_row wz _ i _ _ _ (block_keep R5.out HW.out.bel)
        clear hR hD hW
        go_wp2
        exact HRR.out _ HW.out
      case hnp => rfl
      case hv => first | exact ⟨_, fun _ => rfl⟩ | exact ⟨undef, fun _ => rfl⟩
      apply obl_priv 90
      case hd => rfl
      case hp => rfl
      case hrun =>
        intro D y wz hW hD R hR
        have HRR := Lib.hid hR
        have H9 : D 7 = false := hD.post _ 7 rfl (by kernel_rfl)
        have HW := Lib.hid hW
        clear hR hD hW
        go_wp2
        refine HRR.out _ _ ?_
        have hq := HW.out.call ((Below.refl wz.heap.size wz).alloc (Nat.le_refl _) (.cells #[] 66))
        exact ⟨hq.bel, fun _ _ => ⟨wz.heap.size, rfl, HW.out.bel.size, heap_alloc_new _ _⟩, hq.o, hq.b, hq.a, hq.k10, hq.k12⟩
      apply obl_det
      case hrun =>
        intro D y wz hW hD R hR
        have HRR := Lib.hid hR
        have HW := Lib.hid hW
        have cz := fun i => cell_of_row wz _ i _ _ _ (block_keep R5.out HW.out.bel)
        clear hR hD hW
        go_wp2
        exact HRR.out _ HW.out
      case hnp => rfl
      case hv => first | exact ⟨_, fun _ => rfl⟩ | exact ⟨undef, fun _ => rfl⟩
      apply obl_det
      case hrun =>
        intro D y wz hW hD R hR
        have HRR := Lib.hid hR
        have HW := Lib.hid hW
        have cz := fun i => cell_of_row wz _ i _ _ _ (block_keep R5.out HW.out.bel)
        clear hR hD hW
        go_wp2
        exact HRR.out _ HW.out
      case hnp => rfl
      case hv => first | exact ⟨_, fun _ => rfl⟩ | exact ⟨undef, fun _ => rfl⟩
      apply obl_priv 93
      case hd => rfl
      case hp => rfl
      case hrun =>
        intro D y wz hW hD R hR
        have HRR := Lib.hid hR
        have H6 : D 4 = true := hD.pre _ 4 rfl (by kernel_rfl)
        have H9 : D 7 = false := hD.not
        have H10 : D 8 = false := hD.post _ 8 rfl (by kernel_rfl)
        have H12 : D 10 = false := by
          cases h : D 10
          · rfl
          · rw [hW.k12 h] at H10; cases H10
        obtain ⟨g, hy42, hgu, hgr⟩ := hW.f H9 H6
        have HW := Lib.hid hW
        have hbel := hW.bel
        clear hR hD hW
        have hown : wz.ownsRow w5.heap.size 66 3 (.slice (some ⟨g, 0, none⟩) 0 0) 0 [] := ⟨rfl, .inr ⟨g, 0, #[], rfl, hgu, hgr, Nat.le_refl _, Nat.zero_le _, rfl, rfl⟩⟩
        obtain ⟨i0, hi0, hz0, hz1, hz2⟩ := info66'
        have hsrc : ∀ (j : Nat) u, (stoCells s.stores us)[j]? = some u → wz.cell? ((⟨bs, os, none⟩ : Addr).add j) = some u := by
          intro j u hj
          have h1 := HCL.out j u hj
          rw [add_flat1] at h1 ⊢
          exact (hbel.cell (p := ⟨bs, os + j, none⟩) hbs2).trans h1
        refine wpList_append_own _ rfl _ _ 29 rfl w5.heap.size 66 i0 (.agg #[.string .empty, .int .i64 0, .slice none 0 0]) 3 48 Try.underlying29 hi0 hz0 hz1 hz2 rfl (by decide) (.slice (some ⟨g, 0, none⟩) 0 0) 0 [] hy42 hown ⟨bs, os, none⟩ s.stores.length csl (stoCells s.stores us) rfl hsl3 hsrc HONE.out (by unfold maxLen; omega) (by omega) hbel.size ?_
        intro v' w12 hown12 hgrow12 _
        rw [Nat.zero_add, List.nil_append] at hown12
        have hb2 : Below w5.heap.size wz w12 := (Below.refl w5.heap.size wz).grown hgrow12 hbel.size (fun q e => by simp only [Value.ownBlock, Option.some.injEq] at e; omega)
        have HQ : Hid (DeW w5 s.stores.length (stoCells s.stores us) [.int .i64 s.bend, .int .i64 s.days, .int .i64 s.jump, .int .i64 s.times, .int .i64 s.move] (D 4) true (D 8) (D 9) (D 10) (y 90) v' (y 94) (y 16) w12) := by
          rw [H10, H12]
          refine ⟨hbel.trans hb2, fun h => (by cases h), fun _ => hown12, fun h => (by cases h), fun e => ?_, fun h => (by cases h), fun h => (by cases h)⟩
          obtain ⟨c, h1, h2, h3⟩ := HW.out.a e
          rw [H12] at h3
          have h3' : wz.heap[c]? = some (.cells #[.int .i64 0, .int .i64 0, .int .i64 0, .int .i64 0, .int .i64 0, .slice none 0 0] 31) := h3
          refine ⟨c, h1, h2, ?_⟩
          exact (hgrow12.block c (block_lt h3') (fun e => by simp only [Value.ownBlock, Option.some.injEq] at e; subst e; rw [hgr] at h3'; simp at h3')).trans h3'
        clear hown12 hgrow12 hb2 hown hsrc hy42 hgr hbel
        go_wp2
        exact HRR.out v' w12 HQ.out
      apply obl_priv 94
      case hd => rfl
      case hp => rfl
      case hrun =>
        intro D y wz hW hD R hR
        have HRR := Lib.hid hR
        have H9 : D 7 = true := hD.pre _ 7 rfl (by kernel_rfl)
        have H10 : D 8 = false := hD.not
        have H12 : D 10 = false := hD.post _ 10 rfl (by kernel_rfl)
        have hown := hW.o H9
        have HW := Lib.hid hW
        obtain ⟨k', hk'⟩ : ∃ k', s.stores.length = k' + 1 := ⟨s.stores.length - 1, by omega⟩
        obtain ⟨av, cv, hav⟩ : ∃ a c, y 93 = .slice a s.stores.length c := by
          rw [hk'] at hown ⊢
          exact ownsRow_slice1 hown
        clear hR hD hW hown hk'
        refine wpList_build' rfl 31 _ rfl #[.int .i64 s.bend, .int .i64 s.days, .int .i64 s.jump, .int .i64 s.times, .int .i64 s.move, .slice av s.stores.length cv] (by
          simp only [List.map_toArray, List.map_cons, List.map_nil]
          have hb : Try.prog.built 31 [(0, .agg #[.int .i64 s.bend, .int .i64 s.days, .int .i64 s.jump, .int .i64 s.times]), (1, .int .i64 s.move), (2, y 93)] = some #[.int .i64 s.bend, .int .i64 s.days, .int .i64 s.jump, .int .i64 s.times, .int .i64 s.move, .slice av s.stores.length cv] := by
            rw [hav]
            exact built31 _ _ _ _ _ _ _ _
          exact hb) ?_
        have HQ : Hid (DeW w5 s.stores.length (stoCells s.stores us) [.int .i64 s.bend, .int .i64 s.days, .int .i64 s.jump, .int .i64 s.times, .int .i64 s.move] (D 4) (D 7) true (D 9) (D 10) (y 90) (y 93) (.agg #[.int .i64 s.bend, .int .i64 s.days, .int .i64 s.jump, .int .i64 s.times, .int .i64 s.move, .slice av s.stores.length cv]) (y 16) wz) := by
          rw [H12]
          have ha := HW.out.a
          rw [H12] at ha
          exact ⟨HW.out.bel, HW.out.f, HW.out.o, fun _ => by rw [hav]; rfl, ha, fun _ => H9, fun h => (by cases h)⟩
        clear hav
        go_wp2
        exact HRR.out _ wz HQ.out
      apply obl_priv 16
      case hd => rfl
      case hp => rfl
      case hrun =>
        intro D y wz hW hD R hR
        have HRR := Lib.hid hR
        have H12 : D 10 = false := hD.post _ 10 rfl (by kernel_rfl)
        have HW := Lib.hid hW
        clear hR hD hW
        go_wp2
        refine HRR.out _ _ ?_
        have hq := HW.out.call ((Below.refl wz.heap.size wz).alloc (Nat.le_refl _) (.cells #[.int .i64 0, .int .i64 0, .int .i64 0, .int .i64 0, .int .i64 0, .slice none 0 0] 31))
        exact ⟨hq.bel, hq.f, hq.o, hq.b, fun _ => ⟨wz.heap.size, rfl, HW.out.bel.size, by
          rw [show ((10 : Nat) == 9 || D 10) = false by rw [H12]; rfl]
          exact heap_alloc_new _ _⟩, hq.k10, hq.k12⟩
      apply obl_det
      case hrun =>
        intro D y wz hW hD R hR
        have HRR := Lib.hid hR
        have HW := Lib.hid hW
        have H10 : D 8 = true := hD.pre _ 8 rfl (by kernel_rfl)
        have H11 : D 9 = true := hD.pre _ 9 rfl (by kernel_rfl)
        have H12 : D 10 = false := hD.not
        have H9 := hW.k10 H10
        have hown := hW.o H9
        obtain ⟨k', hk'⟩ : ∃ k', s.stores.length = k' + 1 := ⟨s.stores.length - 1, by omega⟩
        obtain ⟨av, cv, hav⟩ : ∃ a c, y 93 = .slice a s.stores.length c := by
          rw [hk'] at hown ⊢
          exact ownsRow_slice1 hown
        obtain ⟨c, hy9, hc, hrow⟩ := hW.a H11
        rw [H12] at hrow
        have hrow' : wz.heap[c]? = some (.cells #[.int .i64 0, .int .i64 0, .int .i64 0, .int .i64 0, .int .i64 0, .slice none 0 0] 31) := hrow
        have hy46 := hW.b H10
        clear hR hD hW hrow hk'
        refine wpList_store_row rfl 31 _ _ rfl c (([.int .i64 s.bend, .int .i64 s.days, .int .i64 s.jump, .int .i64 s.times, .int .i64 s.move] : List Value) ++ [y 93]).toArray hy9 hy46 31 #[.int .i64 0, .int .i64 0, .int .i64 0, .int .i64 0, .int .i64 0, .slice none 0 0] hrow' info31f rfl (by rw [hav]; simp [Value.oneCell']) ?_
        have HQ : Hid (DeW w5 s.stores.length (stoCells s.stores us) [.int .i64 s.bend, .int .i64 s.days, .int .i64 s.jump, .int .i64 s.times, .int .i64 s.move] (D 4) (D 7) (D 8) (D 9) true (y 90) (y 93) (y 94) (y 16) (wz.setRow c (([.int .i64 s.bend, .int .i64 s.days, .int .i64 s.jump, .int .i64 s.times, .int .i64 s.move] : List Value) ++ [y 93]).toArray)) :=
          ⟨below_setRow HW.out.bel hc _, fun e => (by rw [H9] at e; cases e), fun _ => ownsRow_setRow_ne hown hrow', HW.out.b, fun _ => ⟨c, hy9, hc, setRow_heap _ _ _ _ _ _ hrow'⟩, HW.out.k10, fun _ => H10⟩
        clear hown hav hy46 hy9 hrow' HW
        go_wp2
        exact HRR.out _ HQ.out
      case hnp => rfl
      case hv => first | exact ⟨_, fun _ => rfl⟩ | exact ⟨undef, fun _ => rfl⟩
      apply obl_nil
      intro D y w6 hall hW
      have hown := hW.o (hall 7 (by decide))
      obtain ⟨c, hy9, hc, hrow⟩ := hW.a (hall 9 (by decide))
      have hy46 := hW.b (hall 8 (by decide))
      rw [hall 10 (by decide)] at hrow
      have hrow' : w6.heap[c]? = some (.cells (([.int .i64 s.bend, .int .i64 s.days, .int .i64 s.jump, .int .i64 s.times, .int .i64 s.move] : List Value) ++ [y 93]).toArray 31) := hrow
      have CB := Lib.hid hW.bel
      obtain ⟨-, hown2⟩ := hown
      rcases hown2 with ⟨-, h0⟩ | ⟨g, cap, cur, hav, hgb, hg, hncap, hcmax, hcsz, htake⟩
      · omega
      rw [hav] at hrow' hy46
      have hgc : g ≠ c := by
        rintro rfl
        rw [hg] at hrow'
        simp at hrow'
      have C6 := Lib.hid (C5.out.trans (CB.out.mono C5.out.size))
      have X6 := Lib.hid (block_keep X5.out CB.out)
      have R6 := Lib.hid (block_keep R5.out CB.out)
      have G6 := Lib.hid hg
      have K6 : Hid (w6.heap[c]? = some (.cells #[.int .i64 s.bend, .int .i64 s.days, .int .i64 s.jump, .int .i64 s.times, .int .i64 s.move, .slice (some ⟨g, 0, none⟩) s.stores.length cap] 31)) := hrow'
      have hw2c : w.heap.size ≤ c := Nat.le_trans C5.out.size hc
      have hw2g : w.heap.size ≤ g := Nat.le_trans C5.out.size hgb
      rw [hy9, hav, hy46]
      clear hW hall hrow hrow' hg hy9 hav hy46
      simp only [Exit.then]
      go_upto_region 11 with fail
      have hown0 : w6.ownsRow w5.heap.size 66 3 (.slice (some ⟨g, 0, none⟩) s.stores.length cap) s.stores.length (stoCells s.stores us) := ⟨hsl3, .inr ⟨g, cap, cur, rfl, hgb, G6.out, hncap, hcmax, hcsz, htake⟩⟩
      have HOWN := Lib.hid hown0
      have hgl : g < w6.heap.size := block_lt G6.out
      have hcl : c < w6.heap.size := block_lt K6.out
      clear hown0 hncap hcmax hcsz htake G6
      have cs6 := fun i => cell_of_row w6 _ i _ _ _ R6.out
      go_wp2_with fail
      refine (changed_own s HG.out (.slice (some ⟨bs, os, none⟩) s.stores.length csl) 0 0 (by omega) (by omega) w6 ((HV.out.below C6.out).mono C6.out.size)).mono ?_
      rintro e' w7 ⟨us2, g2, cap2, rfl, hg2, hown2, hus2, hsp2, -, hbw⟩
      have C7 := Lib.hid (C6.out.trans (hbw.mono C6.out.size))
      have R7 := Lib.hid (block_keep R6.out hbw)
      have X7 := Lib.hid (block_keep X6.out hbw)
      have K7 := Lib.hid (block_keep K6.out hbw)
      have HOWN7 := Lib.hid (ownsRow.below HOWN.out hbw)
      obtain ⟨hsp0, hal0⟩ := hsp2 0 (by omega)
      have hwl2 : ((chS s 0 0).stores.getD 0 default).warm.length = s.len := by rw [chS_get s 0 0 0 (by omega), List.length_map]; rfl
      obtain ⟨a0, c0, hu0, -, hlc0, hcc0⟩ := hsp0
      rw [hwl2] at hu0 hlc0
      obtain ⟨gb, go, rfl, hgb2, -⟩ := hcc0.resolve_left (by intro e; rw [e] at hwl2; simp at hwl2; omega)
      obtain ⟨hga, hgne, cu0, hcu0⟩ := hal0 _ _ _ hu0
      simp only at hga hgne hcu0
      have hst0 : w7.cell? ⟨g2, 0, none⟩ = some (.string (s.stores.getD 0 default).name) ∧ w7.cell? ⟨g2, 1, none⟩ = some (.int .i64 (s.stores.getD 0 default).rent) ∧ w7.cell? ⟨g2, 2, none⟩ = some (.slice (some ⟨gb, go, none⟩) s.len c0) := by
        have hc0 := World.ownsRow.cells hown2 (g := g2) rfl
        have hat := stoCells_at (chS s 0 0).stores us2 0 (by rw [chS_count]; omega) (by rw [chS_count, hus2])
        rw [chS_get s 0 0 0 (by omega), hu0] at hat
        have e0 := hc0 0 _ hat.1
        have e1 := hc0 1 _ hat.2.1
        have e2 := hc0 2 _ hat.2.2
        rw [add_flat1] at e0 e1 e2
        exact ⟨e0, e1, e2⟩
      obtain ⟨hn0, hn1, hn2⟩ := hst0
      have hfld := fld31 s.bend s.days s.jump s.times s.move (some ⟨g2, 0, none⟩) s.stores.length cap2
      have hm0 : 0 < s.stores.length := by omega
      have HCU0 : Hid (w7.heap[gb]? = some (.cells cu0 53)) := hcu0
      have HSPC : Hid (∀ i, i < s.len → cu0[go + i * 2]? ≠ none ∧ cu0[go + i * 2 + 1]? ≠ none) := by
        intro i hi
        obtain ⟨hsp0, -⟩ := hsp2 0 (by omega)
        obtain ⟨a0', c0', hu0', -, -, hcc0'⟩ := hsp0
        rw [hu0] at hu0'
        simp only [Value.slice.injEq] at hu0'
        obtain ⟨rfl, -, -⟩ := hu0'
        obtain ⟨b', o', hbo, -, hcell⟩ := hcc0'.resolve_left (by intro e; rw [e] at hwl2; simp at hwl2; omega)
        simp only [Option.some.injEq, Addr.mk.injEq, and_true] at hbo
        obtain ⟨rfl, rfl⟩ := hbo
        have h1 := hcell i (by rw [hwl2]; exact hi)
        rw [cell_of_row w7 gb _ _ _ _ hcu0, cell_of_row w7 gb _ _ _ _ hcu0] at h1
        exact ⟨by rw [h1.1]; simp, by rw [h1.2]; simp⟩
      clear hown2 hus2 hsp2 hal0 hwl2 hcc0 hu0 hbw R6 X6 K6 C6 HOWN cs6 hcu0
      generalize (s.stores.getD 0 default).name = nm0 at *
      generalize (s.stores.getD 0 default).rent = rent0 at *
      go_upto_region 12 with fail
      refine wp_world (fun w8 => Below w7.heap.size w7 w8 ∧ w8.heap[w7.heap.size]? = some (.cells #[.string nm0, .int .i64 rent0, .slice (some ⟨gb, go, none⟩) s.len c0] 66)) ⟨(Below.refl _ _).alloc (Nat.le_refl _) _, heap_alloc_new _ _⟩ ?_
      intro w8 h8
      have B8 := Lib.hid h8.1
      have Y8 := Lib.hid h8.2
      have X8 := Lib.hid (block_keep X7.out h8.1)
      clear h8 hn0 hn1 hn2 hfld
      have hxy : w.heap.size + 1 < w7.heap.size := block_lt X7.out
      obtain ⟨by', hby⟩ : ∃ by', w7.heap.size = by' := ⟨_, rfl⟩
      rw [hby] at Y8 ⊢
      refine wp_region_inv0 (by kernel_rfl) (by kernel_rfl) (fun D w' => Below by' w8 w' ∧ w'.heap[by']? = some (.cells #[if D 4 then .string otherN else .string nm0, if D 6 then .int .i64 x2 else .int .i64 rent0, .slice (some ⟨gb, go, none⟩) s.len c0] 66)) ⟨(Below.refl _ _).drew, Y8.out⟩ ?_
      apply obl_det
      case hrun =>
        intro D y wz hW hD R hR
        have HRR := Lib.hid hR
        have HW := Lib.hid hW
        have cz := fun i => cell_of_row wz _ i _ _ _ ((HW.out.1.block _ (by omega)).trans X8.out)
        clear hR hD hW
        go_wp2
        exact HRR.out _ HW.out
      case hnp => rfl
      case hv => first | exact ⟨_, fun _ => rfl⟩ | exact ⟨undef, fun _ => rfl⟩
      apply obl_det
      case hrun =>
        intro D y wz hW hD R hR
        have HRR := Lib.hid hR
        have HW := Lib.hid hW
        have cz := fun i => cell_of_row wz _ i _ _ _ ((HW.out.1.block _ (by omega)).trans X8.out)
        clear hR hD hW
        go_wp2
        exact HRR.out _ HW.out
      case hnp => rfl
      case hv => first | exact ⟨_, fun _ => rfl⟩ | exact ⟨undef, fun _ => rfl⟩
      apply obl_det
      case hrun =>
        intro D y wz hW hD R hR
        have HRR := Lib.hid hR
        have HW := Lib.hid hW
        have cz := fun i => cell_of_row wz _ i _ _ _ ((HW.out.1.block _ (by omega)).trans X8.out)
        clear hR hD hW
        go_wp2
        exact HRR.out _ HW.out
      case hnp => rfl
      case hv => first | exact ⟨_, fun _ => rfl⟩ | exact ⟨undef, fun _ => rfl⟩
      apply obl_det
      case hrun =>
        intro D y wz hW hD R hR
        have HRR := Lib.hid hR
        have HW := Lib.hid hW
        have cz := fun i => cell_of_row wz _ i _ _ _ ((HW.out.1.block _ (by omega)).trans X8.out)
        clear hR hD hW
        go_wp2
        exact HRR.out _ HW.out
      case hnp => rfl
      case hv => first | exact ⟨_, fun _ => rfl⟩ | exact ⟨undef, fun _ => rfl⟩
      apply obl_det
      case hrun =>
        intro D y wz hW hD R hR
        have HRR := Lib.hid hR
        have HW := Lib.hid hW
        have hy := hW.2
        clear hR hD hW
        refine wpList_store_at rfl _ _ _ rfl by' 0 rfl (.string otherN) _ rfl rfl (cell_of_row wz by' 0 _ _ _ hy) (frozen_of_row wz _ 0 _ _ hy) (by kernel_rfl) ?_
        have HQ : Hid (Below by' w8 (wz.setCell ⟨by', 0, none⟩ (.string otherN)) ∧ (wz.setCell ⟨by', 0, none⟩ (.string otherN)).heap[by']? = some (.cells #[if true then .string otherN else .string nm0, if D 6 then .int .i64 x2 else .int .i64 rent0, .slice (some ⟨gb, go, none⟩) s.len c0] 66)) := ⟨HW.out.1.setCell (p := ⟨by', 0, none⟩) (Nat.le_refl _) _, setCell_at6 hy 0 _⟩
        clear hy HW
        go_wp2
        exact HRR.out _ HQ.out
      case hnp => rfl
      case hv => first | exact ⟨_, fun _ => rfl⟩ | exact ⟨undef, fun _ => rfl⟩
      apply obl_det
      case hrun =>
        intro D y wz hW hD R hR
        have HRR := Lib.hid hR
        have HW := Lib.hid hW
        have cz := fun i => cell_of_row wz _ i _ _ _ ((HW.out.1.block _ (by omega)).trans X8.out)
        clear hR hD hW
        go_wp2
        exact HRR.out _ HW.out
      case hnp => rfl
      case hv => first | exact ⟨_, fun _ => rfl⟩ | exact ⟨undef, fun _ => rfl⟩
      apply obl_det
      case hrun =>
        intro D y wz hW hD R hR
        have HRR := Lib.hid hR
        have HW := Lib.hid hW
        have hy := hW.2
        clear hR hD hW
        refine wpList_store_at rfl _ _ _ rfl by' 1 rfl (.int .i64 x2) _ rfl rfl (cell_of_row wz by' 1 _ _ _ hy) (frozen_of_row wz _ 1 _ _ hy) (by kernel_rfl) ?_
        have HQ : Hid (Below by' w8 (wz.setCell ⟨by', 1, none⟩ (.int .i64 x2)) ∧ (wz.setCell ⟨by', 1, none⟩ (.int .i64 x2)).heap[by']? = some (.cells #[if D 4 then .string otherN else .string nm0, if true then .int .i64 x2 else .int .i64 rent0, .slice (some ⟨gb, go, none⟩) s.len c0] 66)) := ⟨HW.out.1.setCell (p := ⟨by', 1, none⟩) (Nat.le_refl _) _, setCell_at6 hy 1 _⟩
        clear hy HW
        go_wp2
        exact HRR.out _ HQ.out
      case hnp => rfl
      case hv => first | exact ⟨_, fun _ => rfl⟩ | exact ⟨undef, fun _ => rfl⟩
      apply obl_nil
      intro D y w9 hall hW
      rw [hall 4 (by decide), hall 6 (by decide)] at hW
      have B9 := Lib.hid hW.1
      have Y9 : Hid (w9.heap[by']? = some (.cells #[.string otherN, .int .i64 x2, .slice (some ⟨gb, go, none⟩) s.len c0] 66)) := hW.2
      clear hall hW Y8
      simp only [Exit.then]
      have hb7 : Below w.heap.size w w8 := C7.out.trans (B8.out.mono C7.out.size)
      have C9 := Lib.hid (hb7.trans (B9.out.mono (by have := C7.out.size; omega)))
      have kp : ∀ (q : Nat) (o : Obj), w7.heap[q]? = some o → w9.heap[q]? = some o := fun q o hq => (B9.out.block q (by have := block_lt hq; omega)).trans (block_keep hq B8.out)
      have R9 := Lib.hid (kp _ _ R7.out)
      have X9 := Lib.hid (kp _ _ X7.out)
      have K9 := Lib.hid (kp _ _ K7.out)
      have U9 := Lib.hid (kp _ _ HCU0.out)
      have HOWN9 : Hid (w9.ownsRow w5.heap.size 66 3 (.slice (some ⟨g, 0, none⟩) s.stores.length cap) s.stores.length (stoCells s.stores us)) := by
        obtain ⟨h1, h2⟩ := HOWN7.out
        refine ⟨h1, ?_⟩
        rcases h2 with h2 | ⟨g', cap', cur', h3, h4, h5, h6⟩
        · exact .inl h2
        · exact .inr ⟨g', cap', cur', h3, h4, kp _ _ h5, h6⟩
      have hgb7 : gb < by' := by rw [← hby]; exact block_lt HCU0.out
      have hc7 : c < by' := by rw [← hby]; exact block_lt K7.out
      have hs7 : w6.heap.size ≤ w9.heap.size := by have := C9.out.size; have := block_lt Y9.out; omega
      clear hb7 kp R7 X7 K7 HCU0 HOWN7 C7 B8 B9 X8
      go_upto_region 14 with fail
      have hby9 : by' < w9.heap.size := block_lt Y9.out
      go_loopw [18] (fun iv wr => ∃ k : Nat, iv = .int .i64 k ∧ k ≤ s.stores.length ∧ Below w9.heap.size w9 wr ∧ (∀ i, i < k → nameIs otherN (s.stores.getD i default) = false)) (fun iv _ => s.stores.length - (intOf iv).toNat)
      case atStart => exact ⟨0, rfl, by omega, Below.refl _ _, fun i hi => by omega⟩
      case round =>
        obtain ⟨k, rfl, hk, hb, hnon⟩ := hrel
        have HB := Lib.hid hb
        have HNON := Lib.hid hnon
        have DD := Lib.hid (C9.out.trans (hb.mono C9.out.size))
        have csr := fun i => cell_of_row wr _ i _ _ _ (block_keep R9.out hb)
        have cyr := fun i => cell_of_row wr _ i _ _ _ (block_keep Y9.out hb)
        clear hb hnon
        by_cases hlt : k < s.stores.length
        · obtain ⟨bs', os', cs', hvv, hsc, hbs', hc0, -, hnm, -⟩ := (HV.out.below DD.out).at hlt
          simp only [Value.slice.injEq, Option.some.injEq, Addr.mk.injEq, and_true] at hvv
          obtain ⟨⟨rfl, rfl⟩, -, rfl⟩ := hvv
          have HNX : Hid (nameIs otherN (s.stores.getD k default) = false → ∀ i, i < k + 1 → nameIs otherN (s.stores.getD i default) = false) := by
            intro e i hi
            by_cases hik : i < k
            · exact HNON.out i hik
            · obtain rfl : i = k := by omega
              exact e
          obtain ⟨r, hr⟩ : ∃ r, nameIs otherN (s.stores.getD k default) = r := ⟨_, rfl⟩
          rw [hr] at HNX
          unfold nameIs at hr
          generalize (s.stores.getD k default).name = nmk at *
          go_wp2_with fail
          go_quiet (fail)
          simp only [Exit.then]
          cases r
          · have HN2 := Lib.hid (HNX.out rfl)
            clear HNX
            go_wp2_with fail
            refine ⟨⟨k + 1, by push_cast; rfl, by omega, ⟨HB.out.os, HB.out.tape, HB.out.output, HB.out.size, HB.out.block⟩, HN2.out⟩, ?_⟩
            simp [intOf]
            omega
          · clear HNX
            go_wp2_with fail
            refine (awake_any _).mono ?_
            rintro e' w20 ⟨rfl, hbw⟩
            have D0 : ∀ q, Below w.heap.size w (wr.drewN q) := fun _ => ⟨DD.out.os, DD.out.tape, DD.out.output, DD.out.size, DD.out.block⟩
            have D20 := Lib.hid ((D0 _).trans (hbw.mono (D0 _).size))
            clear hbw D0
            go_wp2_with fail
            go_ret
            exact ⟨rfl, D20.out⟩
        · obtain hkn : s.stores.length = k := by omega
          have HNO : Hid (∀ i, i < s.stores.length → nameIs otherN (s.stores.getD i default) = false) := by rw [hkn]; exact HNON.out
          have HKN := Lib.hid hkn
          clear hkn
          go_wp2_with fail
          have C10 := Lib.hid DD.out
          have X10 := Lib.hid (block_keep X9.out HB.out)
          have Y10 := Lib.hid (block_keep Y9.out HB.out)
          have K10 := Lib.hid (block_keep K9.out HB.out)
          have U10 := Lib.hid (block_keep U9.out HB.out)
          have HOWN10 := Lib.hid (ownsRow.below HOWN9.out HB.out)
          have hs10 : w6.heap.size ≤ wr.heap.size := Nat.le_trans hs7 HB.out.size
          have hby10 : by' < wr.heap.size := block_lt Y10.out
          clear csr cyr HB HNON DD X9 Y9 K9 U9 HOWN9 C9 R9 hby9 hs7
          generalize wr = w10 at C10 X10 Y10 K10 U10 HOWN10 hs10 hby10 ⊢
          obtain ⟨lo3, hlo3⟩ : ∃ v, x3 % 61 = v := ⟨_, rfl⟩
          have hlob : 0 ≤ lo3 ∧ lo3 ≤ 60 := by
            have h1 := Int.emod_nonneg x3 (show (61 : Int) ≠ 0 by decide)
            have h2 := Int.emod_lt_of_pos x3 (show (0 : Int) < 61 by decide)
            omega
          have hx4b : 0 ≤ x4 % 12 ∧ x4 % 12 < 12 := ⟨Int.emod_nonneg x4 (by decide), Int.emod_lt_of_pos x4 (by decide)⟩
          obtain ⟨hi3, hhi3⟩ : ∃ v, min 60 (lo3 + x4 % 12) = v := ⟨_, rfl⟩
          have hhib : lo3 ≤ hi3 ∧ hi3 ≤ 60 := by omega
          go_loopw [19, 20] (fun iv _ wu => ∃ (d : Nat) (cu : Array Value), iv = .int .i64 d ∧ d ≤ s.len ∧ Below w6.heap.size w10 wu ∧ wu.heap[by']? = some (.cells #[.string otherN, .int .i64 x2, .slice (some ⟨gb, go, none⟩) s.len c0] 66) ∧ wu.heap[gb]? = some (.cells cu 53) ∧ cu.size = cu0.size ∧ (∀ i, i < d → cu[go + i * 2]? = some (.int .i64 lo3) ∧ cu[go + i * 2 + 1]? = some (.int .i64 hi3)) ∧ w10.heap.size ≤ wu.heap.size) (fun iv _ _ => s.len - (intOf iv).toNat)
          case atStart => exact ⟨0, cu0, rfl, by omega, Below.refl _ _, Y10.out, U10.out, rfl, fun i hi => by omega, Nat.le_refl _⟩
          case round =>
            obtain ⟨d, cu, rfl, hd, hb2, hy, hu, hcs, hfl, hsz⟩ := hrel
            have HB2 := Lib.hid hb2
            have HY := Lib.hid hy
            have HU := Lib.hid hu
            have HFL := Lib.hid hfl
            have cyy := fun i => cell_of_row wr _ i _ _ _ hy
            have cxx := fun i => cell_of_row wr _ i _ _ _ ((hb2.block _ (by omega)).trans X10.out)
            have hul : gb < wr.heap.size := block_lt hu
            clear hb2 hy hu hfl
            by_cases hdl : d < s.len
            · have hin : go + d * 2 + 1 < cu.size := by
                have h1 := (HSPC.out d hdl).2
                rcases Nat.lt_or_ge (go + d * 2 + 1) cu.size with h2 | h2
                · exact h2
                · exact absurd (Array.getElem?_eq_none (by omega)) h1
              have HSZ2 : Hid ((writeAt cu (go + d * 2) [.int .i64 lo3, .int .i64 hi3]).size = cu0.size) := by
                unfold Hid
                simp only [writeAt, Array.size_setIfInBounds]
                exact hcs
              have HFL2 : Hid (∀ i, i < d + 1 → (writeAt cu (go + d * 2) [.int .i64 lo3, .int .i64 hi3])[go + i * 2]? = some (.int .i64 lo3) ∧ (writeAt cu (go + d * 2) [.int .i64 lo3, .int .i64 hi3])[go + i * 2 + 1]? = some (.int .i64 hi3)) := by
                intro i hi
                simp only [writeAt]
                by_cases hid : i < d
                · have h := HFL.out i hid
                  rw [Array.getElem?_setIfInBounds, if_neg (by omega), Array.getElem?_setIfInBounds, if_neg (by omega), Array.getElem?_setIfInBounds, if_neg (by omega), Array.getElem?_setIfInBounds, if_neg (by omega)]
                  exact h
                · obtain rfl : i = d := by omega
                  rw [Array.getElem?_setIfInBounds, if_neg (by omega), Array.getElem?_setIfInBounds, if_pos rfl, if_pos (by omega), Array.getElem?_setIfInBounds, if_pos rfl, if_pos (by rw [Array.size_setIfInBounds]; omega)]
                  exact ⟨rfl, rfl⟩
              clear HFL
              go_upto_region 22 with fail
              rw [hlo3]
              refine wp_region_inv0 (by kernel_rfl) (by kernel_rfl) (fun D w' => Below w6.heap.size w10 w' ∧ w'.heap[by']? = some (.cells #[.string otherN, .int .i64 x2, .slice (some ⟨gb, go, none⟩) s.len c0] 66) ∧ w'.heap[gb]? = some (.cells (if D 13 then (writeAt cu (go + d * 2) [.int .i64 lo3, .int .i64 hi3]) else cu) 53) ∧ w10.heap.size ≤ w'.heap.size) ⟨HB2.out.drew, HY.out, HU.out, hsz⟩ ?_
              apply obl_det
              case hrun =>
                intro D y wz hW hD R hR
                have HRR := Lib.hid hR
                have HW := Lib.hid hW
                have cy := fun i => cell_of_row wz _ i _ _ _ HW.out.2.1
                clear hR hD hW
                go_wp2
                exact HRR.out _ HW.out
              case hnp => rfl
              case hv => first | exact ⟨_, fun _ => rfl⟩ | exact ⟨undef, fun _ => rfl⟩
              apply obl_det
              case hrun =>
                intro D y wz hW hD R hR
                have HRR := Lib.hid hR
                have HW := Lib.hid hW
                have cy := fun i => cell_of_row wz _ i _ _ _ HW.out.2.1
                clear hR hD hW
                go_wp2
                exact HRR.out _ HW.out
              case hnp => rfl
              case hv => first | exact ⟨_, fun _ => rfl⟩ | exact ⟨undef, fun _ => rfl⟩
              apply obl_det
              case hrun =>
                intro D y wz hW hD R hR
                have HRR := Lib.hid hR
                have HW := Lib.hid hW
                clear hR hD hW
                go_wp2
                exact HRR.out _ HW.out
              case hnp => rfl
              case hv => first | exact ⟨_, fun _ => rfl⟩ | exact ⟨undef, fun _ => rfl⟩
              apply obl_det
              case hrun =>
                intro D y wz hW hD R hR
                have HRR := Lib.hid hR
                have HW := Lib.hid hW
                clear hR hD hW
                go_wp2
                exact HRR.out _ HW.out
              case hnp => rfl
              case hv => first | exact ⟨_, fun _ => rfl⟩ | exact ⟨undef, fun _ => rfl⟩
              apply obl_det
              case hrun =>
                intro D y wz hW hD R hR
                have HRR := Lib.hid hR
                have HW := Lib.hid hW
                clear hR hD hW
                go_wp2
                exact HRR.out _ HW.out
              case hnp => rfl
              case hv => first | exact ⟨_, fun _ => rfl⟩ | exact ⟨undef, fun _ => rfl⟩
              apply obl_det
              case hrun =>
                intro D y wz hW hD R hR
                have HRR := Lib.hid hR
                have HW := Lib.hid hW
                have cz := fun i => cell_of_row wz _ i _ _ _ ((HW.out.1.block _ (by omega)).trans X10.out)
                clear hR hD hW
                go_wp2
                exact HRR.out _ HW.out
              case hnp => rfl
              case hv => first | exact ⟨_, fun _ => rfl⟩ | exact ⟨undef, fun _ => rfl⟩
              apply obl_det
              case hrun =>
                intro D y wz hW hD R hR
                have HRR := Lib.hid hR
                have HW := Lib.hid hW
                have cz := fun i => cell_of_row wz _ i _ _ _ ((HW.out.1.block _ (by omega)).trans X10.out)
                clear hR hD hW
                go_wp2
                exact HRR.out _ HW.out
              case hnp => rfl
              case hv => first | exact ⟨_, fun _ => rfl⟩ | exact ⟨undef, fun _ => rfl⟩
              apply obl_det
              case hrun =>
                intro D y wz hW hD R hR
                have HRR := Lib.hid hR
                have HW := Lib.hid hW
                clear hR hD hW
                go_wp2
                exact HRR.out _ HW.out
              case hnp => rfl
              case hv => first | exact ⟨_, fun _ => rfl⟩ | exact ⟨undef, fun _ => rfl⟩
              apply obl_det
              case hrun =>
                intro D y wz hW hD R hR
                have HRR := Lib.hid hR
                have HW := Lib.hid hW
                clear hR hD hW
                go_wp2
                exact HRR.out _ HW.out
              case hnp => rfl
              case hv => first | exact ⟨_, fun _ => rfl⟩ | exact ⟨undef, fun _ => rfl⟩
              apply obl_det
              case hrun =>
                intro D y wz hW hD R hR
                have HRR := Lib.hid hR
                have HW := Lib.hid hW
                clear hR hD hW
                go_wp2
                exact HRR.out _ HW.out
              case hnp => rfl
              case hv => first | exact ⟨_, fun _ => rfl⟩ | exact ⟨undef, fun _ => rfl⟩
              apply obl_det
              case hrun =>
                intro D y wz hW hD R hR
                have HRR := Lib.hid hR
                have HW := Lib.hid hW
                clear hR hD hW
                go_wp2
                exact HRR.out _ HW.out
              case hnp => rfl
              case hv => first | exact ⟨_, fun _ => rfl⟩ | exact ⟨undef, fun _ => rfl⟩
              apply obl_det
              case hrun =>
                intro D y wz hW hD R hR
                have HRR := Lib.hid hR
                have HW := Lib.hid hW
                clear hR hD hW
                have hc := span_any lo3 hi3 wz
                go_wp2_with fail
                refine hc.mono ?_
                rintro e w' ⟨rfl, hbw2⟩
                go_wp2_with fail
                exact HRR.out w' ⟨HW.out.1.trans (hbw2.mono (by have := HW.out.2.2.2; omega)), block_keep HW.out.2.1 hbw2, block_keep HW.out.2.2.1 hbw2, Nat.le_trans HW.out.2.2.2 hbw2.size⟩
              case hnp => rfl
              case hv => first | exact ⟨_, fun _ => rfl⟩ | exact ⟨undef, fun _ => rfl⟩
              apply obl_det
              case hrun =>
                intro D y wz hW hD R hR
                have HRR := Lib.hid hR
                have HW := Lib.hid hW
                clear hR hD hW
                go_wp2
                exact HRR.out _ HW.out
              case hnp => rfl
              case hv => first | exact ⟨_, fun _ => rfl⟩ | exact ⟨undef, fun _ => rfl⟩
              apply obl_det
              case hrun =>
                intro D y wz hW hD R hR
                have HRR := Lib.hid hR
                have H13 : D 13 = false := hD.not
                have hgz := hW.2.2.1
                rw [H13] at hgz
                have hgz' : wz.heap[gb]? = some (.cells cu 53) := hgz
                have HW := Lib.hid hW
                have ht : wz.there gb (go + d * 2) 2 := fun q hq => ⟨by
                  rw [cell_of_row wz gb _ _ _ _ hgz']
                  match q, hq with
                  | 0, _ => rw [Nat.add_zero, Array.getElem?_eq_getElem (by omega)]; rfl
                  | 1, _ => rw [Array.getElem?_eq_getElem (by omega)]; rfl, frozen_of_row wz gb _ _ _ hgz'⟩
                clear hR hD hW hgz
                refine wpList_store_mid rfl 53 _ _ rfl gb (go + d * 2) #[.int .i64 lo3, .int .i64 hi3] rfl rfl ht info53 (by simp [Value.oneCell']) ?_
                have hset : wz.setCells gb (go + d * 2) [.int .i64 lo3, .int .i64 hi3] = wz.setRow gb (writeAt cu (go + d * 2) [.int .i64 lo3, .int .i64 hi3]) := setCells_row gb 53 _ _ wz _ hgz'
                have HQ : Hid (Below w6.heap.size w10 (wz.setCells gb (go + d * 2) [.int .i64 lo3, .int .i64 hi3]) ∧ (wz.setCells gb (go + d * 2) [.int .i64 lo3, .int .i64 hi3]).heap[by']? = some (.cells #[.string otherN, .int .i64 x2, .slice (some ⟨gb, go, none⟩) s.len c0] 66) ∧ (wz.setCells gb (go + d * 2) [.int .i64 lo3, .int .i64 hi3]).heap[gb]? = some (.cells (writeAt cu (go + d * 2) [.int .i64 lo3, .int .i64 hi3]) 53) ∧ w10.heap.size ≤ (wz.setCells gb (go + d * 2) [.int .i64 lo3, .int .i64 hi3]).heap.size) := by
                  rw [hset]
                  exact ⟨below_setRow HW.out.1 hga _, (setRow_other wz _ _ _ (by omega)).trans HW.out.2.1, setRow_heap _ _ _ _ _ _ hgz', by simpa using HW.out.2.2.2⟩
                clear ht hset hgz'
                go_wp2
                exact HRR.out _ ⟨HQ.out.1, HQ.out.2.1, HQ.out.2.2.1, HQ.out.2.2.2⟩
              case hnp => rfl
              case hv => first | exact ⟨_, fun _ => rfl⟩ | exact ⟨undef, fun _ => rfl⟩
              apply obl_nil
              intro D y w8' hall hW
              rw [hall 13 (by decide)] at hW
              have HW8 := Lib.hid hW
              have HG8 : Hid (w8'.heap[gb]? = some (.cells (writeAt cu (go + d * 2) [.int .i64 lo3, .int .i64 hi3]) 53)) := hW.2.2.1
              clear hall hW
              simp only [Exit.inBlock, Exit.then]
              go_wp2_with fail
              refine ⟨?rel, ?mea⟩
              case mea =>
                simp [intOf]
                omega
              case rel =>
                refine ⟨d + 1, (writeAt cu (go + d * 2) [.int .i64 lo3, .int .i64 hi3]), by push_cast; rfl, by omega, HW8.out.1, HW8.out.2.1, HG8.out, HSZ2.out, HFL2.out, HW8.out.2.2.2⟩
            · obtain hdn : d = s.len := by omega

              have hgw : g < wr.heap.size := by omega
              have hcr : wr.heap[c]? = some (.cells #[.int .i64 s.bend, .int .i64 s.days, .int .i64 s.jump, .int .i64 s.times, .int .i64 s.move, .slice (some ⟨g, 0, none⟩) s.stores.length cap] 31) := (HB2.out.block _ hcl).trans K10.out
              have hown : wr.ownsRow w5.heap.size 66 3 (.slice (some ⟨g, 0, none⟩) s.stores.length cap) s.stores.length (stoCells s.stores us) := by
                obtain ⟨h1, h2⟩ := HOWN10.out
                refine ⟨h1, ?_⟩
                rcases h2 with ⟨h2, -⟩ | ⟨g', cap', cur', h3, h4, h5, h6⟩
                · cases h2
                · have h7 := h3
                  simp only [Value.slice.injEq, Option.some.injEq, Addr.mk.injEq, and_true] at h7
                  obtain ⟨rfl, -, rfl⟩ := h7
                  exact .inr ⟨_, _, cur', h3, h4, (HB2.out.block _ hgl).trans h5, h6⟩
              have hcn : c ≠ g := fun e => hgc e.symm
              have HDN := Lib.hid hdn
              have hw5c : w5.heap.size ≤ wr.heap.size := by omega
              have cc0 := fun i => cell_of_row wr _ i _ _ _ hcr
              have hbyr : by' < wr.heap.size := block_lt HY.out
              have hclr : c < wr.heap.size := block_lt hcr
              have HOWNR := Lib.hid hown
              clear hown hdn
              obtain ⟨i0, hi0, hz0, hz1, hz2⟩ := info66'
              go_wp2_with (at_builtin; refine wpList_append_lies _ rfl _ _ 29 rfl w5.heap.size 66 i0 (.agg #[.string .empty, .int .i64 0, .slice none 0 0]) 3 48 Try.underlying29 hi0 hz0 hz1 hz2 rfl (by decide) (.slice (some ⟨g, 0, none⟩) s.stores.length cap) s.stores.length _ rfl (HOWNR.out.alloc _) ⟨wr.heap.size, 0, none⟩ 1 1 [.string otherN, .int .i64 x2, .slice (some ⟨gb, go, none⟩) s.len c0] rfl rfl (cell_three_new _ _ _ _ _) (fun x hx => by simp at hx; rcases hx with rfl | rfl | rfl <;> rfl) (by decide) (by unfold maxLen; omega) (by omega) (by simp; omega) _ rfl ?_; intro g3 cap3 w12 hown12 hgrow12 hgg12 hgl12; have hO12 := (hgrow12.block c (by rw [World.size_alloc]; omega) (fun e => by simp only [Value.ownBlock, Option.some.injEq] at e; exact hcn e)).trans ((Below.heap_alloc wr _ _ hclr).trans hcr); have co12 := fun i => cell_of_row w12 _ i _ _ _ hO12; have fo12 := frozen_of_row w12 _ 5 _ _ hO12)
              have hgg : gb ≠ g := by omega
              have hgc2 : gb ≠ c := by omega
              have hU13 : (w12.setCell ⟨c, 5, none⟩ (.slice (some ⟨g3, 0, none⟩) (s.stores.length + 1) cap3)).heap[gb]? = some (.cells cu 53) := by
                rw [heap_setCell_other _ _ _ _ (show gb ≠ (⟨c, 5, none⟩ : Addr).block from hgc2), hgrow12.block gb (by rw [World.size_alloc]; omega) (fun e => by simp only [Value.ownBlock, Option.some.injEq] at e; exact hgg e), Below.heap_alloc wr _ gb hul]
                exact HU.out
              have hK13 := setCell_at6 hO12 5 (.slice (some ⟨g3, 0, none⟩) (s.stores.length + 1) cap3)
              have hR13 : w12.heap[c]? = some (.cells #[.int .i64 s.bend, .int .i64 s.days, .int .i64 s.jump, .int .i64 s.times, .int .i64 s.move, .slice (some ⟨g, 0, none⟩) s.stores.length cap] 31) := hO12
              have hD13 : Below w.heap.size w (w12.setCell ⟨c, 5, none⟩ (.slice (some ⟨g3, 0, none⟩) (s.stores.length + 1) cap3)) := by
                have h1 : Below w.heap.size w wr := C10.out.trans (HB2.out.mono (by have := C5.out.size; omega))
                exact ((h1.alloc h1.size _).grown hgrow12 (by have := h1.size; simp; omega) (fun q e => by simp only [Value.ownBlock, Option.some.injEq] at e; have := C5.out.size; omega)).setCell (p := ⟨c, 5, none⟩) (by show w.heap.size ≤ c; have := C5.out.size; omega) _
              have hown13 : (w12.setCell ⟨c, 5, none⟩ (.slice (some ⟨g3, 0, none⟩) (s.stores.length + 1) cap3)).ownsRow w5.heap.size 66 3 (.slice (some ⟨g3, 0, none⟩) (s.stores.length + 1) cap3) (s.stores.length + 1) (stoCells (s.stores ++ [⟨otherN, x2, List.replicate s.len (lo3, hi3)⟩]) (us ++ [.slice (some ⟨gb, go, none⟩) s.len c0])) := by
                rw [stoCells_snoc _ _ _ _ (HUS.out.symm)]
                obtain ⟨h1, h2⟩ := hown12
                refine ⟨h1, ?_⟩
                rcases h2 with ⟨h2, -⟩ | ⟨g', cap', cur', h3, h4, h5, h6⟩
                · cases h2
                · refine .inr ⟨g', cap', cur', h3, h4, ?_, h6⟩
                  rw [heap_setCell_other _ _ _ _ (show g' ≠ (⟨c, 5, none⟩ : Addr).block by show g' ≠ c; rintro rfl; rw [hR13] at h5; simp at h5)]
                  exact h5
              generalize w12.setCell ⟨c, 5, none⟩ (.slice (some ⟨g3, 0, none⟩) (s.stores.length + 1) cap3) = w13 at hU13 hK13 hD13 hown13 ⊢
              obtain ⟨yy, hyy⟩ : ∃ yy : Sto, yy = ⟨otherN, x2, List.replicate s.len (lo3, hi3)⟩ := ⟨_, rfl⟩
              rw [← hyy] at hown13
              have hrep : ∀ i, i < s.len → (List.replicate s.len (lo3, hi3)).getD i (0, 0) = (lo3, hi3) := by
                intro i hi
                rw [List.getD_eq_getElem?_getD, List.getElem?_replicate, if_pos hi]; rfl
              have hmok := more_ok (y := yy) HCH.out (by omega) (by rw [hyy]; exact (by kernel_rfl : nameB otherN = true)) (by rw [hyy]; exact HNO.out) (by rw [hyy]; show 0 ≤ x2 ∧ x2 ≤ 100000; omega) (by rw [hyy]; simp) (fun i hi => by rw [hyy]; simp only; rw [hrep i hi]; simp only; omega)
              have hcm := cheap_more HCH.out hmok.1 hmok.2
              rw [HCE.out] at hcm
              simp only at hcm
              have hb513 : Below w.heap.size w5 w13 := ⟨hD13.os.trans C5.out.os.symm, hD13.tape.trans C5.out.tape.symm, hD13.output.trans C5.out.output.symm, by have := block_lt hK13; have := block_lt hU13; have h := World.ownsRow.lt hown13 g3 rfl; omega, fun q hq => (hD13.block q hq).trans (C5.out.block q hq).symm⟩
              have hsp13 : SpansIn w13.heap.size w13 (.slice (some ⟨gb, go, none⟩) s.len c0) (List.replicate s.len (lo3, hi3)) := by
                refine ⟨some ⟨gb, go, none⟩, c0, by simp, by simp; omega, by simp; omega, .inr ⟨gb, go, rfl, block_lt hU13, fun i hi => ?_⟩⟩
                rw [List.length_replicate] at hi
                rw [hrep i hi, cell_of_row w13 gb _ _ _ _ hU13, cell_of_row w13 gb _ _ _ _ hU13]
                exact HFL.out i (by rw [HDN.out]; exact hi)
              have hst13 : StosIn w13.heap.size w13 (.slice (some ⟨g3, 0, none⟩) (s.stores.length + 1) cap3) (moreS s yy).stores := by
                refine ownsRow_stos' hown13 (moreS_count s yy) (by rw [moreS_count]; omega) (by rw [moreS_count, List.length_append, HUS.out]; rfl) (fun i hi => ?_)
                have hi' : i < s.stores.length + 1 := by rw [moreS_count] at hi; exact hi
                by_cases him : i < s.stores.length
                · have e1 := moreS_get s yy i him
                  have e2 : (us ++ [Value.slice (some ⟨gb, go, none⟩) s.len c0]).getD i (.bool false) = us.getD i (.bool false) := by
                    rw [List.getD_eq_getElem?_getD, List.getD_eq_getElem?_getD, List.getElem?_append_left (by rw [HUS.out]; exact him)]
                  rw [e1, e2]
                  have h := HSP.out i him
                  exact ⟨h.1, (h.2.below hb513).mono hD13.size⟩
                · obtain rfl : i = s.stores.length := by omega
                  have e1 := moreS_last s yy
                  have e2 : (us ++ [Value.slice (some ⟨gb, go, none⟩) s.len c0]).getD s.stores.length (.bool false) = Value.slice (some ⟨gb, go, none⟩) s.len c0 := by
                    rw [List.getD_eq_getElem?_getD, List.getElem?_append_right (by rw [HUS.out]; exact Nat.le_refl _), HUS.out, Nat.sub_self]; rfl
                  rw [e1, e2, hyy]
                  exact ⟨by show otherN.size ≤ _; exact Nat.le_trans (Nat.le_of_eq (by kernel_rfl : otherN.size = 15)) (by omega), hsp13⟩
              have HST13 := Lib.hid hst13
              have D13 := Lib.hid hD13
              have HK13 : Hid (w13.heap[c]? = some (.cells #[.int .i64 s.bend, .int .i64 s.days, .int .i64 s.jump, .int .i64 s.times, .int .i64 s.move, .slice (some ⟨g3, 0, none⟩) (s.stores.length + 1) cap3] 31)) := hK13
              obtain ⟨b2, l2, k2, hcv⟩ : ∃ a b c, cheapV (moreS s yy) = (a, b, c) := ⟨_, _, _, rfl⟩
              rw [hcv] at hcm
              simp only at hcm
              have HCV := Lib.hid hcv
              clear hcv hst13 hsp13 hb513 hmok hrep hyy hown13 hD13 hK13 hU13 hgg12 hgl12 hlo3 hhi3 cyy cxx cc0
              have ck := fun i => cell_of_row w13 _ i _ _ _ HK13.out
              go_wp2_with fail
              have hc := cheap_any (moreS s yy) (.slice (some ⟨g3, 0, none⟩) (s.stores.length + 1) cap3) w13 HST13.out
              refine hc.mono ?_
              rintro e' w14 ⟨qv, he14, -, -, hbw14⟩
              rw [HCV.out] at he14
              subst he14
              have D14 := Lib.hid (D13.out.trans (hbw14.mono D13.out.size))
              clear hbw14 hc ck
              obtain ⟨hf, hk2, himp⟩ := hcm
              have fin14 : ∀ w15, Below w14.heap.size w14 w15 → Below w.heap.size w w15 := fun w15 hb => D14.out.trans (hb.mono D14.out.size)
              have HFIN := Lib.hid fin14
              clear fin14
              rcases hf with rfl | rfl
              · obtain ⟨rfl, hle⟩ := himp rfl
                have hq : decide (l2 ≤ cents) = true := decide_eq_true hle
                go_wp2_with fail
                refine (awake_any _).mono ?_
                rintro e' w15 ⟨rfl, hbw⟩
                have D15 := Lib.hid (HFIN.out w15 hbw)
                clear hbw
                go_wp2_with fail
                go_ret
                exact ⟨rfl, D15.out⟩
              · clear himp
                rcases hk2 with rfl | rfl
                · go_wp2_with fail
                  refine (awake_any _).mono ?_
                  rintro e' w15 ⟨rfl, hbw⟩
                  have D15 := Lib.hid (HFIN.out w15 hbw)
                  clear hbw
                  go_wp2_with fail
                  go_ret
                  exact ⟨rfl, D15.out⟩
                · go_wp2_with fail
                  refine (awake_any _).mono ?_
                  rintro e' w15 ⟨rfl, hbw⟩
                  have D15 := Lib.hid (HFIN.out w15 hbw)
                  clear hbw
                  go_wp2_with fail
                  go_ret
                  exact ⟨rfl, D15.out⟩
end Go.Proofs.Ytddapabmfecidaa
