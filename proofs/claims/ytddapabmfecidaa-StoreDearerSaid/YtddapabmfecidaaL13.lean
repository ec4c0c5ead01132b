/- StoreDearer: the walk. -/
import Derived.Test.YtddapabmfecidaaAW
import Derived.Test.YtddapabmfecidaaP10
import Derived.Test.YtddapabmfecidaaH8
import Derived.Test.YtddapabmfecidaaDr
namespace Go.Proofs.Ytddapabmfecidaa
open Go.RowKit
/-- The worlds of the region that copies the stores into another season. -/
structure DeW (wr : World) (m : Nat) (xs hd5 : List Value) (d6 d9 d10 d11 d12 : Bool) (y42 y45 y46 y9 : Value) (w' : World) : Prop where
  bel : Below wr.heap.size wr w'
  f : d9 = false → d6 = true → ∃ g, y42 = .slice (some ⟨g, 0, none⟩) 0 0 ∧ wr.heap.size ≤ g ∧ w'.heap[g]? = some (.cells #[] 66)
  o : d9 = true → w'.ownsRow wr.heap.size 66 3 y45 m xs
  b : d10 = true → y46 = .agg (hd5 ++ [y45]).toArray
  a : d11 = true → ∃ c, y9 = .pointer (some ⟨c, 0, none⟩) ∧ wr.heap.size ≤ c ∧ w'.heap[c]? = some (.cells (if d12 then (hd5 ++ [y45]).toArray else #[.int .i64 0, .int .i64 0, .int .i64 0, .int .i64 0, .int .i64 0, .slice none 0 0]) 31)
  k10 : d10 = true → d9 = true
  k12 : d12 = true → d10 = true
theorem DeW.call {wr : World} {m : Nat} {xs hd5 : List Value} {d6 d9 d10 d11 d12 : Bool} {y42 y45 y46 y9 : Value} {w' w'' : World} (h : DeW wr m xs hd5 d6 d9 d10 d11 d12 y42 y45 y46 y9 w') (hb : Below w'.heap.size w' w'') : DeW wr m xs hd5 d6 d9 d10 d11 d12 y42 y45 y46 y9 w'' := by
  refine ⟨h.bel.trans (hb.mono h.bel.size), fun e1 e2 => ?_, fun e => ownsRow.below (h.o e) hb, h.b, fun e => ?_, h.k10, h.k12⟩
  · obtain ⟨g, h1, h2, h3⟩ := h.f e1 e2
    exact ⟨g, h1, h2, block_keep h3 hb⟩
  · obtain ⟨c, h1, h2, h3⟩ := h.a e
    exact ⟨c, h1, h2, block_keep h3 hb⟩
theorem add_flat1 {g o j : Nat} : ((⟨g, o, none⟩ : Addr).add j) = ⟨g, o + j, none⟩ := by unfold Addr.add; split <;> simp_all
theorem built31 (be d jm t mv : Int) (a : Option Addr) (n c : Nat) : Try.prog.built 31 [(0, .agg #[.int .i64 be, .int .i64 d, .int .i64 jm, .int .i64 t]), (1, .int .i64 mv), (2, .slice a n c)] = some #[.int .i64 be, .int .i64 d, .int .i64 jm, .int .i64 t, .int .i64 mv, .slice a n c] := by kernel_rfl
set_option maxRecDepth 100000 in
set_option maxHeartbeats 4000000 in
theorem dearer_law (s : Sea) (vs : Value) (f : Int) (hf : 0 ≤ f ∧ f ≤ 255) (w : World) (hv : StosIn w.heap.size w vs s.stores) :
    Calls Try.prog 13 #[.agg #[.int .i64 s.bend, .int .i64 s.days, .int .i64 s.jump, .int .i64 s.times, .int .i64 s.move, vs], .int .u8 f] w (fun e w' => e = .returned (.bool true) ∧ Below w.heap.size w w') := by
  have HV := Lib.hid hv
  obtain ⟨asl, csl, rfl, hsl, hslc, -⟩ := hv
  have C0 : Hid (Below w.heap.size w (w.alloc (.cells #[.int .i64 s.bend, .int .i64 s.days, .int .i64 s.jump, .int .i64 s.times, .int .i64 s.move, .slice asl s.stores.length csl] 31))) := (Below.refl _ _).alloc (Nat.le_refl _) _
  have R0 : Hid ((w.alloc (.cells #[.int .i64 s.bend, .int .i64 s.days, .int .i64 s.jump, .int .i64 s.times, .int .i64 s.move, .slice asl s.stores.length csl] 31)).heap[w.heap.size]? = some (.cells #[.int .i64 s.bend, .int .i64 s.days, .int .i64 s.jump, .int .i64 s.times, .int .i64 s.move, .slice asl s.stores.length csl] 31)) := heap_alloc_new _ _
  obtain ⟨ok, hok⟩ : ∃ ok, s.ok = ok := ⟨_, rfl⟩
  have HOK := Lib.hid hok
  go_enter Try.func13, Try.ntmps13
  go_wp2_with fail
  refine (cheap_any s _ _ ((HV.out.below C0.out).mono C0.out.size)).mono ?_
  rintro e' w1 ⟨wv, rfl, hwi, -, hbw⟩
  have C1 := Lib.hid (C0.out.trans (hbw.mono C0.out.size))
  have R1 := Lib.hid (block_keep R0.out hbw)
  clear hbw C0 R0 hok
  have cs1 := fun i => cell_of_row w1 _ i _ _ _ R1.out
  go_wp2_with fail
  refine (valid_any s _ _ ((HV.out.below C1.out).mono C1.out.size) _ HOK.out).mono ?_
  rintro e' w2 ⟨rfl, hbw⟩
  have C2 := Lib.hid (C1.out.trans (hbw.mono C1.out.size))
  have R2 := Lib.hid (block_keep R1.out hbw)
  have HWI := Lib.hid (hwi.next hbw)
  clear hbw C1 R1 cs1 hwi
  cases ok
  · have hne : (checkV s).2.2 ≠ 0 := by
      intro h
      have := HOK.out
      unfold Sea.ok at this
      rw [h] at this
      cases this
    rw [cheapV_bad hne] at HWI ⊢
    have hzz : ((checkV s).2.2 != 0) = true := by simpa using hne
    generalize (checkV s).2.2 = e at *
    clear hne HWI
    go_wp2_with fail
    refine (awake_any _).mono ?_
    rintro e' w3 ⟨rfl, hbw⟩
    have C3 := Lib.hid (C2.out.trans (hbw.mono C2.out.size))
    clear hbw
    go_wp2_with fail
    go_ret
    exact ⟨rfl, C3.out⟩
  · have hchk : (checkV s).2.2 = 0 := by
      have := HOK.out
      unfold Sea.ok at this
      simpa using this
    have HCH := Lib.hid hchk
    have HG := Lib.hid (good_of_ok hchk)
    have hst := HG.out.stores
    have hl8 := HG.out.len
    have hmv := HG.out.move
    clear hchk
    obtain ⟨n, hn, hn1, hn9⟩ : ∃ n : Int, 1 + f % 9 = n ∧ 1 ≤ n ∧ n ≤ 9 := by
      have h1 := Int.emod_nonneg f (show (9 : Int) ≠ 0 by decide)
      have h2 := Int.emod_lt_of_pos f (show (0 : Int) < 9 by decide)
      exact ⟨_, rfl, by omega, by omega⟩
    have hf9 : 0 ≤ f % 9 ∧ f % 9 < 9 := by omega
    obtain ⟨mvn, hmvn⟩ : ∃ v, s.move * n = v := ⟨_, rfl⟩
    have HMV := Lib.hid hmvn
    have hmvb : 0 ≤ mvn ∧ mvn ≤ 900000 := by
      have h1 := Int.mul_nonneg hmv.1 (show 0 ≤ n by omega)
      have h2 := Int.mul_le_mul hmv.2 hn9 (by omega) (by omega)
      omega
    obtain ⟨best, cents, e, hce⟩ : ∃ b c e, cheapV s = (b, c, e) := ⟨_, _, _, rfl⟩
    have HCE := Lib.hid hce
    rw [hce] at HWI ⊢
    clear hce
    simp only at HWI
    have cs2 := fun i => cell_of_row w2 _ i _ _ _ R2.out
    go_upto_region 5 with fail
    have hst2 := (HV.out.below C2.out)
    obtain ⟨bs, os, cs', hvv, -, -, -, -, -, -, -, -⟩ := HV.out.at (i := 0) (by omega)
    simp only [Value.slice.injEq] at hvv
    obtain ⟨rfl, -, rfl⟩ := hvv
    obtain ⟨us, hus, hbs, hcells, hsp⟩ := stos_cells hst2 (by omega)
    have HUS := Lib.hid hus
    have HSP := Lib.hid hsp
    have HCL := Lib.hid hcells
    have hbs2 : bs < w2.heap.size := Nat.lt_of_lt_of_le hbs C2.out.size
    have hsl3 : (stoCells s.stores us).length = s.stores.length * 3 := stoCells_len _ _ hus.symm
    have hone : ∀ u ∈ stoCells s.stores us, u.oneCell' = true := by
      intro u hu
      unfold stoCells at hu
      obtain ⟨p, hp, hu⟩ := List.mem_flatMap.1 hu
      obtain ⟨i, hi, hpi⟩ := List.getElem_of_mem hp
      have hzl : i < s.stores.length := by
        rw [List.length_zip] at hi; omega
      have hp2 : p.2 = us.getD i (.bool false) := by
        rw [← hpi, List.getElem_zip, List.getD_eq_getElem?_getD, List.getElem?_eq_getElem (by omega)]
        rfl
      obtain ⟨a, c, hsl, -⟩ := (hsp i hzl).2
      simp only [List.mem_cons, List.not_mem_nil, or_false] at hu
      rcases hu with rfl | rfl | rfl
      · rfl
      · rfl
      · rw [hp2, hsl]; rfl
    have HONE := Lib.hid hone
    clear hcells hsp hone hus hst2 cs2
    refine wp_region_inv1 (by kernel_rfl) (by kernel_rfl) [42, 45, 46, 9] (fun D y w' => DeW w2 s.stores.length (stoCells s.stores us) [.int .i64 s.bend, .int .i64 s.days, .int .i64 s.jump, .int .i64 s.times, .int .i64 mvn] (D 6) (D 9) (D 10) (D 11) (D 12) (y 42) (y 45) (y 46) (y 9) w') ?_ ?Fz ?hFz ?_
    · exact ⟨(Below.refl _ _).drew, fun _ h => (by cases h), fun h => (by cases h), fun h => (by cases h), fun h => (by cases h), fun h => (by cases h), fun h => (by cases h)⟩
    case hFz =>
      intro y
      simp only [fill, List.foldl, Act.put, List.setIfInBounds_toArray, List.set]
      exact rfl
    apply obl_det
    case hrun =>
      intro D y wz hW hD R hR
      have HRR := Lib.hid hR
      have HW := Lib.hid hW
      have cz := fun i => cell_of_row wz _ i _ _ _ (block_keep R2.out HW.out.bel)
      clear hR hD hW
      go_wp2
      exact HRR.out _ HW.out
    case hnp => rfl
    case hv => first | exact ⟨_, fun _ => rfl⟩ | exact ⟨undef, fun _ => rfl⟩
    apply obl_det
    case hrun =>
      intro D y wz hW hD R hR
      have HRR := Lib.hid hR
      have HW := Lib.hid hW
      have cz := fun i => cell_of_row wz _ i _ _ _ (block_keep R2.out HW.out.bel)
      clear hR hD hW
      go_wp2
      exact HRR.out _ HW.out
    case hnp => rfl
    case hv => first | exact ⟨_, fun _ => rfl⟩ | exact ⟨undef, fun _ => rfl⟩
    apply obl_det
    case hrun =>
      intro D y wz hW hD R hR
      have HRR := Lib.hid hR
      have HW := Lib.hid hW
      have cz := fun i => cell_of_row wz _ i _ _ _ (block_keep R2.out HW.out.bel)
      clear hR hD hW
      go_wp2
      exact HRR.out _ HW.out
    case hnp => rfl
    case hv => first | exact ⟨_, fun _ => rfl⟩ | exact ⟨undef, fun _ => rfl⟩
    apply obl_det
    case hrun =>
      intro D y wz hW hD R hR
      have HRR := Lib.hid hR
      have HW := Lib.hid hW
      have cz := fun i => cell_of_row wz _ i _ _ _ (block_keep R2.out HW.out.bel)
      clear hR hD hW
      go_wp2
      exact HRR.out _ HW.out
    case hnp => rfl
    case hv => first | exact ⟨_, fun _ => rfl⟩ | exact ⟨undef, fun _ => rfl⟩
    apply obl_det
    case hrun =>
      intro D y wz hW hD R hR
      have HRR := Lib.hid hR
      have HW := Lib.hid hW
      have cz := fun i => cell_of_row wz _ i _ _ _ (block_keep R2.out HW.out.bel)
      clear hR hD hW
      go_wp2
      exact HRR.out _ HW.out
    case hnp => rfl
    case hv => first | exact ⟨_, fun _ => rfl⟩ | exact ⟨undef, fun _ => rfl⟩
    apply obl_det
    case hrun =>
      intro D y wz hW hD R hR
      have HRR := Lib.hid hR
      have HW := Lib.hid hW
      have cz := fun i => cell_of_row wz _ i _ _ _ (block_keep R2.out HW.out.bel)
      clear hR hD hW
      go_wp2
      exact HRR.out _ HW.out
    case hnp => rfl
    case hv => first | exact ⟨_, fun _ => rfl⟩ | exact ⟨undef, fun _ => rfl⟩
    apply obl_priv 42
    case hd => rfl
    case hp => rfl
    case hrun =>
      intro D y wz hW hD R hR
      have HRR := Lib.hid hR
      have H9 : D 9 = false := hD.post _ 9 rfl (by kernel_rfl)
      have HW := Lib.hid hW
      clear hR hD hW
      go_wp2
      refine HRR.out _ _ ?_
      have hq := HW.out.call ((Below.refl wz.heap.size wz).alloc (Nat.le_refl _) (.cells #[] 66))
      exact ⟨hq.bel, fun _ _ => ⟨wz.heap.size, rfl, HW.out.bel.size, heap_alloc_new _ _⟩, hq.o, hq.b, hq.a, hq.k10, hq.k12⟩
    apply obl_det
    case hrun =>
      intro D y wz hW hD R hR
      have HRR := Lib.hid hR
      have HW := Lib.hid hW
      have cz := fun i => cell_of_row wz _ i _ _ _ (block_keep R2.out HW.out.bel)
      clear hR hD hW
      go_wp2
      exact HRR.out _ HW.out
    case hnp => rfl
    case hv => first | exact ⟨_, fun _ => rfl⟩ | exact ⟨undef, fun _ => rfl⟩
    apply obl_det
    case hrun =>
      intro D y wz hW hD R hR
      have HRR := Lib.hid hR
      have HW := Lib.hid hW
      have cz := fun i => cell_of_row wz _ i _ _ _ (block_keep R2.out HW.out.bel)
      clear hR hD hW
      go_wp2
      exact HRR.out _ HW.out
    case hnp => rfl
    case hv => first | exact ⟨_, fun _ => rfl⟩ | exact ⟨undef, fun _ => rfl⟩
    apply obl_priv 45
    case hd => rfl
    case hp => rfl
    case hrun =>
      intro D y wz hW hD R hR
      have HRR := Lib.hid hR
      have H6 : D 6 = true := hD.pre _ 6 rfl (by kernel_rfl)
      have H9 : D 9 = false := hD.not
      have H10 : D 10 = false := hD.post _ 10 rfl (by kernel_rfl)
      have H12 : D 12 = false := by
        cases h : D 12
        · rfl
        · rw [hW.k12 h] at H10; cases H10
      obtain ⟨g, hy42, hgu, hgr⟩ := hW.f H9 H6
      have HW := Lib.hid hW
      have hbel := hW.bel
      clear hR hD hW
      have hown : wz.ownsRow w2.heap.size 66 3 (.slice (some ⟨g, 0, none⟩) 0 0) 0 [] := ⟨rfl, .inr ⟨g, 0, #[], rfl, hgu, hgr, Nat.le_refl _, Nat.zero_le _, rfl, rfl⟩⟩
      obtain ⟨i0, hi0, hz0, hz1, hz2⟩ := info66'
      have hsrc : ∀ (j : Nat) u, (stoCells s.stores us)[j]? = some u → wz.cell? ((⟨bs, os, none⟩ : Addr).add j) = some u := by
        intro j u hj
        have h1 := HCL.out j u hj
        rw [add_flat1] at h1 ⊢
        exact (hbel.cell (p := ⟨bs, os + j, none⟩) hbs2).trans h1
      refine wpList_append_own _ rfl _ _ 29 rfl w2.heap.size 66 i0 (.agg #[.string .empty, .int .i64 0, .slice none 0 0]) 3 48 Try.underlying29 hi0 hz0 hz1 hz2 rfl (by decide) (.slice (some ⟨g, 0, none⟩) 0 0) 0 [] hy42 hown ⟨bs, os, none⟩ s.stores.length csl (stoCells s.stores us) rfl hsl3 hsrc HONE.out (by unfold maxLen; omega) (by omega) hbel.size ?_
      intro v' w12 hown12 hgrow12 _
      rw [Nat.zero_add, List.nil_append] at hown12
      have hb2 : Below w2.heap.size wz w12 := (Below.refl w2.heap.size wz).grown hgrow12 hbel.size (fun q e => by simp only [Value.ownBlock, Option.some.injEq] at e; omega)
      have HQ : Hid (DeW w2 s.stores.length (stoCells s.stores us) [.int .i64 s.bend, .int .i64 s.days, .int .i64 s.jump, .int .i64 s.times, .int .i64 mvn] (D 6) true (D 10) (D 11) (D 12) (y 42) v' (y 46) (y 9) w12) := by
        rw [H10, H12]
        refine ⟨hbel.trans hb2, fun h => (by cases h), fun _ => hown12, fun h => (by cases h), fun e => ?_, fun h => (by cases h), fun h => (by cases h)⟩
        obtain ⟨c, h1, h2, h3⟩ := HW.out.a e
        rw [H12] at h3
        have h3' : wz.heap[c]? = some (.cells #[.int .i64 0, .int .i64 0, .int .i64 0, .int .i64 0, .int .i64 0, .slice none 0 0] 31) := h3
        refine ⟨c, h1, h2, ?_⟩
        exact (hgrow12.block c (block_lt h3') (fun e => by simp only [Value.ownBlock, Option.some.injEq] at e; subst e; rw [hgr] at h3'; simp at h3')).trans h3'
      clear hown12 hgrow12 hb2 hown hsrc hy42 hgr hbel
      go_wp2
      exact HRR.out v' w12 HQ.out
    apply obl_priv 46
    case hd => rfl
    case hp => rfl
    case hrun =>
      intro D y wz hW hD R hR
      have HRR := Lib.hid hR
      have H9 : D 9 = true := hD.pre _ 9 rfl (by kernel_rfl)
      have H10 : D 10 = false := hD.not
      have H12 : D 12 = false := hD.post _ 12 rfl (by kernel_rfl)
      have hown := hW.o H9
      have HW := Lib.hid hW
      obtain ⟨k', hk'⟩ : ∃ k', s.stores.length = k' + 1 := ⟨s.stores.length - 1, by omega⟩
      obtain ⟨av, cv, hav⟩ : ∃ a c, y 45 = .slice a s.stores.length c := by
        rw [hk'] at hown ⊢
        exact ownsRow_slice1 hown
      clear hR hD hW hown hk'
      refine wpList_build' rfl 31 _ rfl #[.int .i64 s.bend, .int .i64 s.days, .int .i64 s.jump, .int .i64 s.times, .int .i64 mvn, .slice av s.stores.length cv] (by
        simp only [List.map_toArray, List.map_cons, List.map_nil]
        have hb : Try.prog.built 31 [(0, .agg #[.int .i64 s.bend, .int .i64 s.days, .int .i64 s.jump, .int .i64 s.times]), (1, .int .i64 mvn), (2, y 45)] = some #[.int .i64 s.bend, .int .i64 s.days, .int .i64 s.jump, .int .i64 s.times, .int .i64 mvn, .slice av s.stores.length cv] := by
          rw [hav]
          exact built31 _ _ _ _ _ _ _ _
        exact hb) ?_
      have HQ : Hid (DeW w2 s.stores.length (stoCells s.stores us) [.int .i64 s.bend, .int .i64 s.days, .int .i64 s.jump, .int .i64 s.times, .int .i64 mvn] (D 6) (D 9) true (D 11) (D 12) (y 42) (y 45) (.agg #[.int .i64 s.bend, .int .i64 s.days, .int .i64 s.jump, .int .i64 s.times, .int .i64 mvn, .slice av s.stores.length cv]) (y 9) wz) := by
        rw [H12]
        have ha := HW.out.a
        rw [H12] at ha
        exact ⟨HW.out.bel, HW.out.f, HW.out.o, fun _ => by rw [hav]; rfl, ha, fun _ => H9, fun h => (by cases h)⟩
      clear hav
      go_wp2
      exact HRR.out _ wz HQ.out
    apply obl_priv 9
    case hd => rfl
    case hp => rfl
    case hrun =>
      intro D y wz hW hD R hR
      have HRR := Lib.hid hR
      have H12 : D 12 = false := hD.post _ 12 rfl (by kernel_rfl)
      have HW := Lib.hid hW
      clear hR hD hW
      go_wp2
      refine HRR.out _ _ ?_
      have hq := HW.out.call ((Below.refl wz.heap.size wz).alloc (Nat.le_refl _) (.cells #[.int .i64 0, .int .i64 0, .int .i64 0, .int .i64 0, .int .i64 0, .slice none 0 0] 31))
      exact ⟨hq.bel, hq.f, hq.o, hq.b, fun _ => ⟨wz.heap.size, rfl, HW.out.bel.size, by
        rw [show ((12 : Nat) == 11 || D 12) = false by rw [H12]; rfl]
        exact heap_alloc_new _ _⟩, hq.k10, hq.k12⟩
    apply obl_det
    case hrun =>
      intro D y wz hW hD R hR
      have HRR := Lib.hid hR
      have HW := Lib.hid hW
      have H10 : D 10 = true := hD.pre _ 10 rfl (by kernel_rfl)
      have H11 : D 11 = true := hD.pre _ 11 rfl (by kernel_rfl)
      have H12 : D 12 = false := hD.not
      have H9 := hW.k10 H10
      have hown := hW.o H9
      obtain ⟨k', hk'⟩ : ∃ k', s.stores.length = k' + 1 := ⟨s.stores.length - 1, by omega⟩
      obtain ⟨av, cv, hav⟩ : ∃ a c, y 45 = .slice a s.stores.length c := by
        rw [hk'] at hown ⊢
        exact ownsRow_slice1 hown
      obtain ⟨c, hy9, hc, hrow⟩ := hW.a H11
      rw [H12] at hrow
      have hrow' : wz.heap[c]? = some (.cells #[.int .i64 0, .int .i64 0, .int .i64 0, .int .i64 0, .int .i64 0, .slice none 0 0] 31) := hrow
      have hy46 := hW.b H10
      clear hR hD hW hrow hk'
      refine wpList_store_row rfl 31 _ _ rfl c (([.int .i64 s.bend, .int .i64 s.days, .int .i64 s.jump, .int .i64 s.times, .int .i64 mvn] : List Value) ++ [y 45]).toArray hy9 hy46 31 #[.int .i64 0, .int .i64 0, .int .i64 0, .int .i64 0, .int .i64 0, .slice none 0 0] hrow' info31f rfl (by rw [hav]; simp [Value.oneCell']) ?_
      have HQ : Hid (DeW w2 s.stores.length (stoCells s.stores us) [.int .i64 s.bend, .int .i64 s.days, .int .i64 s.jump, .int .i64 s.times, .int .i64 mvn] (D 6) (D 9) (D 10) (D 11) true (y 42) (y 45) (y 46) (y 9) (wz.setRow c (([.int .i64 s.bend, .int .i64 s.days, .int .i64 s.jump, .int .i64 s.times, .int .i64 mvn] : List Value) ++ [y 45]).toArray)) :=
        ⟨below_setRow HW.out.bel hc _, fun e => (by rw [H9] at e; cases e), fun _ => ownsRow_setRow_ne hown hrow', HW.out.b, fun _ => ⟨c, hy9, hc, setRow_heap _ _ _ _ _ _ hrow'⟩, HW.out.k10, fun _ => H10⟩
      clear hown hav hy46 hy9 hrow' HW
      go_wp2
      exact HRR.out _ HQ.out
    case hnp => rfl
    case hv => first | exact ⟨_, fun _ => rfl⟩ | exact ⟨undef, fun _ => rfl⟩
    apply obl_nil
    intro D y w3 hall hW
    have hown := hW.o (hall 9 (by decide))
    obtain ⟨c, hy9, hc, hrow⟩ := hW.a (hall 11 (by decide))
    have hy46 := hW.b (hall 10 (by decide))
    rw [hall 12 (by decide)] at hrow
    have hrow' : w3.heap[c]? = some (.cells (([.int .i64 s.bend, .int .i64 s.days, .int .i64 s.jump, .int .i64 s.times, .int .i64 mvn] : List Value) ++ [y 45]).toArray 31) := hrow
    have CB := Lib.hid hW.bel
    obtain ⟨-, hown2⟩ := hown
    rcases hown2 with ⟨-, h0⟩ | ⟨g, cap, cur, hav, hgb, hg, hncap, hcmax, hcsz, htake⟩
    · omega
    rw [hav] at hrow' hy46
    have hgc : g ≠ c := by
      rintro rfl
      rw [hg] at hrow'
      simp at hrow'
    have C3 := Lib.hid (C2.out.trans (CB.out.mono C2.out.size))
    have HWI3 := Lib.hid (HWI.out.next CB.out)
    have G3 := Lib.hid hg
    have K3 : Hid (w3.heap[c]? = some (.cells #[.int .i64 s.bend, .int .i64 s.days, .int .i64 s.jump, .int .i64 s.times, .int .i64 mvn, .slice (some ⟨g, 0, none⟩) s.stores.length cap] 31)) := hrow'
    have hw2c : w.heap.size ≤ c := Nat.le_trans C2.out.size hc
    have hw2g : w.heap.size ≤ g := Nat.le_trans C2.out.size hgb
    rw [hy9, hav, hy46]
    clear hW hall hrow hrow' hg hy9 hav hy46
    simp only [Exit.then]
    go_upto_region 7 with fail
    have HUSL := Lib.hid HUS.out
    go_loopw [10] (fun iv wr => ∃ (k : Nat) (cu : Array Value), iv = .int .i64 k ∧ k ≤ s.stores.length ∧ Below w2.heap.size w3 wr ∧ wr.heap[c]? = some (.cells #[.int .i64 s.bend, .int .i64 s.days, .int .i64 s.jump, .int .i64 s.times, .int .i64 mvn, .slice (some ⟨g, 0, none⟩) s.stores.length cap] 31) ∧ wr.heap[g]? = some (.cells cu 66) ∧ cu.size = cap * 3 ∧ cu.toList.take (s.stores.length * 3) = stoCells (dearTo n k s.stores) us) (fun iv _ => s.stores.length - (intOf iv).toNat)
    case atStart => exact ⟨0, cur, rfl, by omega, Below.refl _ _, K3.out, G3.out, hcsz, htake⟩
    case round =>
      obtain ⟨k, cu, rfl, hk, hb, hkr, hgr, hsz, htk⟩ := hrel
      have HB := Lib.hid hb
      have HK := Lib.hid hkr
      have HGR := Lib.hid hgr
      have HSZ := Lib.hid hsz
      have HTK := Lib.hid htk
      clear hb hkr hgr hsz htk
      have ckr := fun i => cell_of_row wr _ i _ _ _ HK.out
      by_cases hlt : k < s.stores.length
      · obtain ⟨r, hr⟩ : ∃ r, (s.stores.getD k default).rent = r := ⟨_, rfl⟩
        have hrb := HG.out.rent k hlt
        rw [hr] at hrb
        obtain ⟨rn, hrn⟩ : ∃ rn, r * n = rn := ⟨_, rfl⟩
        have hrnb : 0 ≤ rn ∧ rn ≤ 900000 := by
          have h1 := Int.mul_nonneg hrb.1 (show 0 ≤ n by omega)
          have h2 := Int.mul_le_mul hrb.2 hn9 (by omega) (by omega)
          omega
        have hdl : (dearTo n k s.stores).length = us.length := by rw [dearTo_len, HUSL.out]
        have HCK : Hid (cu[k * 3 + 1]? = some (.int .i64 r)) := by
          have h1 := congrArg (·[k * 3 + 1]?) HTK.out
          simp only [List.getElem?_take] at h1
          rw [if_pos (by omega), Array.getElem?_toList] at h1
          unfold Hid
          rw [h1, (stoCells_at _ us k (by rw [dearTo_len]; exact hlt) hdl).2.1, dearTo_rent n k _ hlt, hr]
        have HNX : Hid ((cu.setIfInBounds (k * 3 + 1) (.int .i64 rn)).toList.take (s.stores.length * 3) = stoCells (dearTo n (k + 1) s.stores) us) := by
          unfold Hid
          rw [dearTo_set n k _ us hlt HUSL.out.symm, hr, hrn, ← HTK.out, Array.toList_setIfInBounds, List.take_set]
        clear hdl
        go_upto_region 9 with fail
        refine wp_region_inv0 (by kernel_rfl) (by kernel_rfl) (fun D w' => Below w2.heap.size w3 w' ∧ w'.heap[c]? = some (.cells #[.int .i64 s.bend, .int .i64 s.days, .int .i64 s.jump, .int .i64 s.times, .int .i64 mvn, .slice (some ⟨g, 0, none⟩) s.stores.length cap] 31) ∧ w'.heap[g]? = some (.cells (if D 13 then cu.setIfInBounds (k * 3 + 1) (.int .i64 rn) else cu) 66) ∧ (D 13 = true → D 10 = true)) ⟨HB.out.drew, HK.out, HGR.out, fun h => (by cases h)⟩ ?_
        apply obl_det
        case hrun =>
          intro D y wz hW hD R hR
          have HRR := Lib.hid hR
          have HW := Lib.hid hW
          have cz := fun i => cell_of_row wz _ i _ _ _ HW.out.2.1
          clear hR hD hW
          go_wp2
          exact HRR.out _ HW.out
        case hnp => rfl
        case hv => first | exact ⟨_, fun _ => rfl⟩ | exact ⟨undef, fun _ => rfl⟩
        apply obl_det
        case hrun =>
          intro D y wz hW hD R hR
          have HRR := Lib.hid hR
          have HW := Lib.hid hW
          have cz := fun i => cell_of_row wz _ i _ _ _ HW.out.2.1
          clear hR hD hW
          go_wp2
          exact HRR.out _ HW.out
        case hnp => rfl
        case hv => first | exact ⟨_, fun _ => rfl⟩ | exact ⟨undef, fun _ => rfl⟩
        apply obl_det
        case hrun =>
          intro D y wz hW hD R hR
          have HRR := Lib.hid hR
          have HW := Lib.hid hW
          have cz := fun i => cell_of_row wz _ i _ _ _ HW.out.2.1
          clear hR hD hW
          go_wp2
          exact HRR.out _ HW.out
        case hnp => rfl
        case hv => first | exact ⟨_, fun _ => rfl⟩ | exact ⟨undef, fun _ => rfl⟩
        apply obl_det
        case hrun =>
          intro D y wz hW hD R hR
          have HRR := Lib.hid hR
          have HW := Lib.hid hW
          have cz := fun i => cell_of_row wz _ i _ _ _ HW.out.2.1
          clear hR hD hW
          go_wp2
          exact HRR.out _ HW.out
        case hnp => rfl
        case hv => first | exact ⟨_, fun _ => rfl⟩ | exact ⟨undef, fun _ => rfl⟩
        apply obl_det
        case hrun =>
          intro D y wz hW hD R hR
          have HRR := Lib.hid hR
          have HW := Lib.hid hW
          have cz := fun i => cell_of_row wz _ i _ _ _ HW.out.2.1
          clear hR hD hW
          go_wp2
          exact HRR.out _ HW.out
        case hnp => rfl
        case hv => first | exact ⟨_, fun _ => rfl⟩ | exact ⟨undef, fun _ => rfl⟩
        apply obl_det
        case hrun =>
          intro D y wz hW hD R hR
          have HRR := Lib.hid hR
          have HW := Lib.hid hW
          have cz := fun i => cell_of_row wz _ i _ _ _ HW.out.2.1
          clear hR hD hW
          go_wp2
          exact HRR.out _ HW.out
        case hnp => rfl
        case hv => first | exact ⟨_, fun _ => rfl⟩ | exact ⟨undef, fun _ => rfl⟩
        apply obl_det
        case hrun =>
          intro D y wz hW hD R hR
          have HRR := Lib.hid hR
          have HW := Lib.hid hW
          have cz := fun i => cell_of_row wz _ i _ _ _ HW.out.2.1
          clear hR hD hW
          go_wp2
          exact HRR.out _ HW.out
        case hnp => rfl
        case hv => first | exact ⟨_, fun _ => rfl⟩ | exact ⟨undef, fun _ => rfl⟩
        apply obl_det
        case hrun =>
          intro D y wz hW hD R hR
          have HRR := Lib.hid hR
          have HW := Lib.hid hW
          have cz := fun i => cell_of_row wz _ i _ _ _ HW.out.2.1
          clear hR hD hW
          go_wp2
          exact HRR.out _ HW.out
        case hnp => rfl
        case hv => first | exact ⟨_, fun _ => rfl⟩ | exact ⟨undef, fun _ => rfl⟩
        apply obl_det
        case hrun =>
          intro D y wz hW hD R hR
          have HRR := Lib.hid hR
          have HW := Lib.hid hW
          have cz := fun i => cell_of_row wz _ i _ _ _ HW.out.2.1
          have H10 : D 10 = false := hD.post _ 10 rfl (by kernel_rfl)
          have H13 : D 13 = false := by
            cases h : D 13
            · rfl
            · rw [hW.2.2.2 h] at H10; cases H10
          have hgz := hW.2.2.1
          rw [H13] at hgz
          have hgz' : wz.heap[g]? = some (.cells cu 66) := hgz
          have cgz := cell_of_row wz g (k * 3 + 1) _ _ _ hgz'
          rw [HCK.out] at cgz
          clear hgz hgz' H10 H13
          clear hR hD hW
          go_wp2
          exact HRR.out _ HW.out
        case hnp => rfl
        case hv => first | exact ⟨_, fun _ => rfl⟩ | exact ⟨undef, fun _ => rfl⟩
        apply obl_det
        case hrun =>
          intro D y wz hW hD R hR
          have HRR := Lib.hid hR
          have HW := Lib.hid hW
          have cz := fun i => cell_of_row wz _ i _ _ _ HW.out.2.1
          clear hR hD hW
          go_wp2
          exact HRR.out _ HW.out
        case hnp => rfl
        case hv => first | exact ⟨_, fun _ => rfl⟩ | exact ⟨undef, fun _ => rfl⟩
        apply obl_det
        case hrun =>
          intro D y wz hW hD R hR
          have HRR := Lib.hid hR
          have HW := Lib.hid hW
          clear hR hD hW
          go_wp2
          exact HRR.out _ ⟨HW.out.1, HW.out.2.1, HW.out.2.2.1, fun _ => rfl⟩
        case hnp => rfl
        case hv => first | exact ⟨_, fun _ => rfl⟩ | exact ⟨undef, fun _ => rfl⟩
        apply obl_det
        case hrun =>
          intro D y wz hW hD R hR
          have HRR := Lib.hid hR
          have HW := Lib.hid hW
          have cz := fun i => cell_of_row wz _ i _ _ _ HW.out.2.1
          clear hR hD hW
          go_wp2
          exact HRR.out _ HW.out
        case hnp => rfl
        case hv => first | exact ⟨_, fun _ => rfl⟩ | exact ⟨undef, fun _ => rfl⟩
        apply obl_det
        case hrun =>
          intro D y wz hW hD R hR
          have HRR := Lib.hid hR
          have HW := Lib.hid hW
          have cz := fun i => cell_of_row wz _ i _ _ _ HW.out.2.1
          clear hR hD hW
          go_wp2
          exact HRR.out _ HW.out
        case hnp => rfl
        case hv => first | exact ⟨_, fun _ => rfl⟩ | exact ⟨undef, fun _ => rfl⟩
        apply obl_det
        case hrun =>
          intro D y wz hW hD R hR
          have HRR := Lib.hid hR
          have H13 : D 13 = false := hD.not
          have H10 : D 10 = true := hD.pre _ 10 rfl (by kernel_rfl)
          have hgz := hW.2.2.1
          rw [H13] at hgz
          have hgz' : wz.heap[g]? = some (.cells cu 66) := hgz
          have cgz := cell_of_row wz g (k * 3 + 1) _ _ _ hgz'
          rw [HCK.out] at cgz
          have fgz := frozen_of_row wz g (k * 3 + 1) _ _ hgz'
          have HQ : Hid (Below w2.heap.size w3 (wz.setCell ⟨g, k * 3 + 1, none⟩ (.int .i64 rn)) ∧ (wz.setCell ⟨g, k * 3 + 1, none⟩ (.int .i64 rn)).heap[c]? = some (.cells #[.int .i64 s.bend, .int .i64 s.days, .int .i64 s.jump, .int .i64 s.times, .int .i64 mvn, .slice (some ⟨g, 0, none⟩) s.stores.length cap] 31) ∧ (wz.setCell ⟨g, k * 3 + 1, none⟩ (.int .i64 rn)).heap[g]? = some (.cells (cu.setIfInBounds (k * 3 + 1) (.int .i64 rn)) 66) ∧ (true = true → D 10 = true)) :=
            ⟨hW.1.setCell (p := ⟨g, k * 3 + 1, none⟩) hgb _, (heap_setCell_other _ _ _ _ (show c ≠ (⟨g, k * 3 + 1, none⟩ : Addr).block by show c ≠ g; exact fun e => hgc e.symm)).trans hW.2.1, setCell_at6 hgz' _ _, fun _ => H10⟩
          clear hR hD hW hgz hgz'
          go_wp2
          exact HRR.out _ ⟨HQ.out.1, HQ.out.2.1, HQ.out.2.2.1, fun _ => H10⟩
        case hnp => rfl
        case hv => first | exact ⟨_, fun _ => rfl⟩ | exact ⟨undef, fun _ => rfl⟩
        apply obl_nil
        intro D y w8 hall hW
        rw [hall 13 (by decide)] at hW
        have HW8 := Lib.hid hW
        have HG8 : Hid (w8.heap[g]? = some (.cells (cu.setIfInBounds (k * 3 + 1) (.int .i64 rn)) 66)) := hW.2.2.1
        clear hall hW
        simp only [Exit.inBlock, Exit.then]
        go_wp2_with fail
        refine ⟨⟨k + 1, by push_cast; rfl, by omega, HW8.out.1, HW8.out.2.1, _, HG8.out, by rw [Array.size_setIfInBounds]; exact HSZ.out, HNX.out⟩, ?_⟩
        simp [intOf]
        omega
      · obtain hkn : s.stores.length = k := by omega
        have hstd := HTK.out
        rw [← hkn, dearTo_all] at hstd
        have hdc := dearS_count s n
        have hds : (dearS s n).stores = s.stores.map fun x => { x with rent := x.rent * n } := rfl
        have hown : wr.ownsRow w2.heap.size 66 3 (.slice (some ⟨g, 0, none⟩) s.stores.length cap) s.stores.length (stoCells (dearS s n).stores us) :=
          ⟨by rw [stoCells_len _ _ (by rw [hdc, HUSL.out]), hdc], .inr ⟨g, cap, cu, rfl, hgb, HGR.out, hncap, hcmax, HSZ.out, hstd⟩⟩
        have hbw : Below w.heap.size w2 wr := ((CB.out.trans HB.out).mono C2.out.size)
        have HSD := Lib.hid (ownsRow_stos' hown hdc (by omega) (by rw [hdc, HUSL.out]) (fun i hi => by
          rw [hdc] at hi
          rw [dearS_get s n i hi]
          exact ⟨(HSP.out i hi).1, ((HSP.out i hi).2.below hbw).mono (by have := C2.out.size; have := hbw.size; omega)⟩))
        have DD := Lib.hid (C2.out.trans hbw)
        have HWID : Hid (IntsIn .i64 wr.heap.size wr wv best) := (HWI.out.below (CB.out.trans HB.out)).mono (CB.out.trans HB.out).size
        clear hstd hown hbw
        rw [← hkn]
        clear hkn
        have ckd := fun i => cell_of_row wr _ i _ _ _ HK.out
        have HKD := Lib.hid (HK.out)
        obtain ⟨ok2, hok2⟩ : ∃ ok2, (dearS s n).ok = ok2 := ⟨_, rfl⟩
        have HOK2 := Lib.hid hok2
        have hcb : 0 ≤ cents ∧ cents ≤ 1600000 := by
          have hb := bestR_bound s HG.out s.len 0 (-1) 0 zeros61
          have hce := HCE.out
          unfold cheapV at hce
          rw [if_pos HCH.out] at hce
          split at hce
          · simp only [Prod.mk.injEq] at hce
            omega
          · simp only [Prod.mk.injEq] at hce
            have := hce.2.1
            omega
        obtain ⟨nc, hnc⟩ : ∃ nc, n * cents = nc := ⟨_, rfl⟩
        have hncb : 0 ≤ nc ∧ nc ≤ 14400000 := by
          have h1 := Int.mul_nonneg (show 0 ≤ n by omega) hcb.1
          have h2 := Int.mul_le_mul hn9 hcb.2 hcb.1 (by decide)
          omega
        clear hok2 ckr
        go_wp2_with fail
        have hc := valid_any (dearS s n) (.slice (some ⟨g, 0, none⟩) s.stores.length cap) wr HSD.out _ HOK2.out
        rw [show (dearS s n).move = mvn from HMV.out] at hc
        refine hc.mono ?_
        rintro e' w5 ⟨rfl, hbw5⟩
        have C5 := Lib.hid (DD.out.trans (hbw5.mono DD.out.size))
        have K5 := Lib.hid (block_keep HKD.out hbw5)
        have HSD5 := Lib.hid (HSD.out.next hbw5)
        have HWI5 := Lib.hid (HWID.out.next hbw5)
        clear hbw5 ckd hc
        have ck5 := fun i => cell_of_row w5 _ i _ _ _ K5.out
        cases ok2
        · go_wp2_with fail
          refine (awake_any _).mono ?_
          rintro e' w6 ⟨rfl, hbw6⟩
          have C6 := Lib.hid (C5.out.trans (hbw6.mono C5.out.size))
          clear hbw6
          go_wp2_with fail
          go_ret
          exact ⟨rfl, C6.out⟩
        · have hchk2 : (checkV (dearS s n)).2.2 = 0 := by
            have := HOK2.out
            unfold Sea.ok at this
            simpa using this
          have hcd := cheap_dear HCH.out hn1 hchk2
          rw [HCE.out] at hcd
          simp only at hcd
          rw [hnc] at hcd
          have HCD := Lib.hid hcd
          clear hchk2 hcd
          go_wp2_with fail
          have hc := cheap_any (dearS s n) (.slice (some ⟨g, 0, none⟩) s.stores.length cap) w5 HSD5.out
          rw [show (dearS s n).move = mvn from HMV.out] at hc
          refine hc.mono ?_
          rintro e' w6 ⟨qv, he6, hqi, -, hbw6⟩
          rw [HCD.out] at he6 hqi
          subst he6
          have C6 := Lib.hid (C5.out.trans (hbw6.mono C5.out.size))
          have HWI6 := Lib.hid (HWI5.out.next hbw6)
          have HQI := Lib.hid hqi
          clear hbw6 hc hqi
          simp only at HQI
          have hqe1 : (e == e) = true := by simp
          have hqe2 : (nc == nc) = true := by simp
          go_wp2_with fail
          refine (ints_same best wv qv w6 HWI6.out HQI.out).mono ?_
          rintro e' w7 ⟨rfl, hbw7⟩
          have C7 := Lib.hid (C6.out.trans (hbw7.mono C6.out.size))
          clear hbw7
          go_wp2_with fail
          refine (awake_any _).mono ?_
          rintro e' w8 ⟨rfl, hbw8⟩
          have C8 := Lib.hid (C7.out.trans (hbw8.mono C7.out.size))
          clear hbw8
          go_wp2_with fail
          go_ret
          exact ⟨rfl, C8.out⟩
end Go.Proofs.Ytddapabmfecidaa
