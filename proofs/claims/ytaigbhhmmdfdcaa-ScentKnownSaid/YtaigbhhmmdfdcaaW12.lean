/- scent.first at batches; melt. -/
import Derived.Test.YtaigbhhmmdfdcaaW11
namespace Go.Proofs.Ytaigbhhmmdfdcaa
open Go.RowKit
theorem batchEs_get {s : Shop} {l : List Bat} {k : Nat} (h : k < l.length) : (batchEs s l).getD k 0 = batchE s l k := errs_get _ _ _ h
theorem next_all (B : Nat) (w wr : World) (s : Shop) (hs : ShopOk s) (l : List Bat) (hl : l.length ≤ 6) (k : Nat) (hk : k < l.length) (hp : Prefix s l k) (g : Nat → Nat) (bo : Nat → BO) (gs ga : Nat) (vt vl va vg vb vd : Value) (hv : ShopAt B w vt vl s) (hM : MS B w k g bo gs ga vt vl va wr)
    (hbo : ∀ i, i < k → BoOk B w s l k i (bo i)) (hx : BatAt B w vg vb vd (l.getD k default)) :
    Calls Try.prog 95 #[.int .i64 k, .agg #[vg, vb, vd], .pointer (some ⟨gs, 0, none⟩), .pointer (some ⟨ga, 0, none⟩)] wr (NextPost B w s l k gs ga vt vl) := by
  by_cases h : (l.getD k default).grams.length ≠ s.lots.length ∨ k < (l.getD k default).back.length ∨ (l.getD k default).added.length ≠ s.things.length
  · exact next_len B w wr s l k g bo gs ga vt vl va vg vb vd hv hM hx h
  · simp only [not_or, Nat.not_lt, ne_eq, Decidable.not_not] at h
    exact next_any B w wr s hs l hl k hk hp g bo gs ga vt vl va vg vb vd hv hM hbo hx h.1 h.2.1 h.2.2
/-- What the batches' loop leaves. -/
def MeltW (B : Nat) (w : World) (s : Shop) (l : List Bat) (gs ga : Nat) (vt vl : Value) (e : Int) (w' : World) : Prop :=
  Below B w w' ∧ (∃ va, w'.heap[ga]? = some (.cells #[va] 103)) ∧ (e = 0 → ∃ g bo va, MS B w l.length g bo gs ga vt vl va w' ∧ ∀ i, i < l.length → BoOk B w s l l.length i (bo i))
set_option maxRecDepth 100000 in
set_option maxHeartbeats 8000000 in
theorem firstBat_any (B : Nat) (w w0 : World) (s : Shop) (hs : ShopOk s) (l : List Bat) (hl : l.length ≤ 6) (gs ga : Nat) (vt vl va v : Value) (hv : ShopAt B w vt vl s) (hl' : BatsIn B w v l) (g : Nat → Nat) (bo : Nat → BO) (hM : MS B w 0 g bo gs ga vt vl va w0) :
    Calls Try.prog 97 #[v, .func (.func 95) #[] #[.pointer (some ⟨gs, 0, none⟩), .pointer (some ⟨ga, 0, none⟩)]] w0
      fun e w' => (∃ at', e = .returned (.tuple #[.int .i64 at', .int .i64 (findE (batchEs s l) 0).2])) ∧ MeltW B w s l gs ga vt vl (findE (batchEs s l) 0).2 w' := by
  have HL := Lib.hid hl'
  have HV := Lib.hid hv
  have HM := Lib.hid hM
  have HS := Lib.hid hs
  obtain ⟨a, c, rfl, -, hlen⟩ := sl_shape hl'
  clear hl' hv hM hs
  unfold MeltW
  go_enter Try.func97, Try.ntmps97
  go_wp2_with fail
  go_loopw [10] (fun i wr => ∃ (k : Nat) (g : Nat → Nat) (bo : Nat → BO) (va : Value), k ≤ l.length ∧ i = .int .i64 k ∧ Prefix s l k ∧ MS B w k g bo gs ga vt vl va wr ∧ (∀ i, i < k → BoOk B w s l k i (bo i)) ∧ findE (batchEs s l) 0 = findE ((batchEs s l).drop k) k) (fun i _ => l.length - (intOf i).toNat)
  case atStart => exact ⟨0, g, bo, va, by omega, rfl, fun j hj => by omega, HM.out, fun j hj => by omega, rfl⟩
  case round =>
    obtain ⟨k, g, bo, va, hk, rfl, hp, hM, hbo, hf⟩ := hrel
    have HF := Lib.hid hf
    have HP := Lib.hid hp
    have HMr := Lib.hid hM
    have HBO := Lib.hid hbo
    clear hf hp hM hbo
    by_cases hkl : k < l.length
    · obtain ⟨b', o, hva, hbB, vg, vb, vd, hc1, hc2, hc3, hx⟩ := HL.out.at' hkl
      subst hva
      have hc1 := (HMr.out.bel.cell (p := ⟨b', _, none⟩) hbB).trans hc1
      have hc2 := (HMr.out.bel.cell (p := ⟨b', _, none⟩) hbB).trans hc2
      have hc3 := (HMr.out.bel.cell (p := ⟨b', _, none⟩) hbB).trans hc3
      simp only [rdBat] at hc1 hc2 hc3
      have HX := Lib.hid hx
      obtain ⟨a1, c1, rfl, -⟩ := ints_shape hx.1
      obtain ⟨a2, c2, rfl, -⟩ := ints_shape hx.2.1
      obtain ⟨a3, c3, rfl, -⟩ := sl_shape hx.2.2
      clear hx
      have HD : Hid (findE ((batchEs s l).drop k) k = if batchE s l k = 0 then findE ((batchEs s l).drop (k + 1)) (k + 1) else (k, batchE s l k)) := by
        unfold Hid
        rw [findE_drop _ _ (by simpa [batchEs] using hkl), batchEs_get hkl]
      have HMa := Lib.hid (HMr.out.alloc (.cells #[.slice a1 (l.getD k default).grams.length c1, .slice a2 (l.getD k default).back.length c2, .slice a3 (l.getD k default).added.length c3] 75))
      have HC := Lib.hid (next_all B w _ s HS.out l hl k hkl HP.out g bo gs ga vt vl va _ _ _ HV.out HMa.out HBO.out HX.out)
      unfold NextPost at HC
      obtain ⟨r, hr⟩ : ∃ r, batchE s l k = r := ⟨_, rfl⟩
      rw [hr] at HD HC
      have HR := Lib.hid hr
      clear hr
      generalize (l.getD k default).grams.length = n1 at *
      generalize (l.getD k default).back.length = n2 at *
      generalize (l.getD k default).added.length = n3 at *
      go_wp2_with fail
      refine HC.out.mono ?_
      rintro e w1 ⟨rfl, hb1, hal, hok⟩
      have HB1 := Lib.hid hb1
      have HAL := Lib.hid hal
      have HOK := Lib.hid hok
      clear hb1 hal hok HC hc1 hc2 hc3
      by_cases hz : r = 0
      · subst hz
        obtain ⟨g', bo', va', hM', hbo'⟩ := HOK.out rfl
        have HM' := Lib.hid hM'
        have HBO' := Lib.hid hbo'
        clear hM' hbo'
        go_wp2_with fail
        go_roundw
        case rel =>
          refine ⟨k + 1, g', bo', va', by omega, by go_num, ?_, HM'.out, HBO'.out, by rw [HF.out, HD.out]; simp⟩
          intro j hj
          by_cases hjk : j = k
          · subst hjk; exact HR.out
          · exact HP.out j (by omega)
        case measure => simp [intOf]; omega
      · have hz2 : (r != 0) = true := by simpa using hz
        have HZ := Lib.hid hz
        clear hz
        go_wp2_with fail
        go_ret2
        rw [HF.out, HD.out, if_neg HZ.out]
        exact ⟨⟨_, rfl⟩, HB1.out, HAL.out, fun h => absurd h HZ.out⟩
    · obtain rfl : k = l.length := by omega
      have HD : Hid (findE (batchEs s l) 0 = (0, 0)) := by
        unfold Hid
        rw [HF.out, List.drop_of_length_le (by simp [batchEs])]
        rfl
      go_wp2_with fail
      go_ret2
      rw [HD.out]
      exact ⟨⟨_, rfl⟩, HMr.out.bel, ⟨_, HMr.out.al⟩, fun _ => ⟨g, bo, va, HMr.out, HBO.out⟩⟩
end Go.Proofs.Ytaigbhhmmdfdcaa
