/- MouldWarmer: the walk. -/
import Derived.Test.YtafdagjdpnaddaaW35
import Derived.Test.YtafdagjdpnaddaaAW
namespace Go.Proofs.Ytafdagjdpnaddaa
open Go.RowKit
/-- A truth that is warmer, as far as it can be. -/
def wideP (m : Mou) (r : Nat) (yl yl2 : List Int) : List Int := mapTo (fun i => min m.ph ((truthPl m m.rings.toNat yl).getD i 0 + turnV yl2 i)) r
def wideW (m : Mou) (n : Nat) (zl zl2 : List Int) : List Int := mapTo (fun i => min m.wh ((truthWl m n zl).getD i 0 + turnV zl2 i)) n
theorem leL_min {l : List Int} {hi : Int} {f : Nat → Int} (hl : ∀ i, i < l.length → l.getD i 0 ≤ hi) (hf : ∀ i, 0 ≤ f i) {n : Nat} (hn : l.length = n) : LeL l (mapTo (fun i => min hi (l.getD i 0 + f i)) n) := ⟨by rw [mapTo_len, hn], fun i h => by
  rw [mapTo_getD _ (by omega)]
  have := hl i h
  have := hf i
  omega⟩
theorem fits_min {l : List Int} {lo hi : Int} {f : Nat → Int} (hl : Fits2 lo hi l) (hf : ∀ i, 0 ≤ f i) {n : Nat} (hn : l.length = n) : Fits2 lo hi (mapTo (fun i => min hi (l.getD i 0 + f i)) n) := fun i h => by
  rw [mapTo_len] at h
  rw [mapTo_getD _ h]
  have := hl i (by omega)
  have := hf i
  omega
theorem IntsIn.kb {k : IntKind} {B : Nat} {W w : World} {v : Value} {l : List Int} (h : IntsIn k B W v l) (hk : ∀ b, b < B → w.heap[b]? = W.heap[b]?) (hs : B ≤ w.heap.size) : IntsIn k w.heap.size w v l := by
  obtain ⟨a, c, rfl, hl, h⟩ := h
  refine ⟨a, c, rfl, hl, ?_⟩
  rcases h with h | ⟨b, o, rfl, hbb, h⟩
  · exact .inl h
  · exact .inr ⟨b, o, rfl, by omega, fun i hi => by rw [← h i hi]; simp only [World.cell?, hk b hbb]⟩
/-- What holds amid 'p, q := When(m, t), When(m, u)'. -/
structure WwW (wb : World) (l1 l2 : List Int) (d2 d4 d5 d6 : Bool) (y2 y4 y5 y6 : Value) (w : World) : Prop where
  bel : Below wb.heap.size wb w
  n1 : d2 = true → IntsIn .i64 w.heap.size w y2 l1
  n2 : d4 = true → IntsIn .i64 w.heap.size w y4 l2
  a1 : d5 = true → y5 = y2
  a2 : d6 = true → y6 = y4
section
variable {wb w w' : World} {l1 l2 : List Int} {d2 d4 d5 d6 : Bool} {y2 y4 y5 y6 x : Value}
theorem WwW.start (wb : World) : WwW wb l1 l2 false false false false y2 y4 y5 y6 wb.drew := ⟨(Below.refl _ _).drew, fun h => (by cases h), fun h => (by cases h), fun h => (by cases h), fun h => (by cases h)⟩
theorem WwW.next (h : WwW wb l1 l2 d2 d4 d5 d6 y2 y4 y5 y6 w) (hb : Below w.heap.size w w') : WwW wb l1 l2 d2 d4 d5 d6 y2 y4 y5 y6 w' := ⟨h.bel.trans (hb.mono h.bel.size), fun e => (h.n1 e).next hb, fun e => (h.n2 e).next hb, h.a1, h.a2⟩
theorem WwW.put1 (h : WwW wb l1 l2 d2 d4 d5 d6 y2 y4 y5 y6 w) (hd : d5 = false) (h1 : IntsIn .i64 w.heap.size w x l1) : WwW wb l1 l2 true d4 d5 d6 x y4 y5 y6 w := ⟨h.bel, fun _ => h1, h.n2, fun e => (by rw [hd] at e; cases e), h.a2⟩
theorem WwW.put2 (h : WwW wb l1 l2 d2 d4 d5 d6 y2 y4 y5 y6 w) (hd : d6 = false) (h1 : IntsIn .i64 w.heap.size w x l2) : WwW wb l1 l2 d2 true d5 d6 y2 x y5 y6 w := ⟨h.bel, h.n1, fun _ => h1, h.a1, fun e => (by rw [hd] at e; cases e)⟩
theorem WwW.put3 (h : WwW wb l1 l2 d2 d4 d5 d6 y2 y4 y5 y6 w) : WwW wb l1 l2 d2 d4 true d6 y2 y4 y2 y6 w := ⟨h.bel, h.n1, h.n2, fun _ => rfl, h.a2⟩
theorem WwW.put4 (h : WwW wb l1 l2 d2 d4 d5 d6 y2 y4 y5 y6 w) : WwW wb l1 l2 d2 d4 d5 true y2 y4 y5 y4 w := ⟨h.bel, h.n1, h.n2, h.a1, fun _ => rfl⟩
end
set_option maxRecDepth 100000 in
set_option maxHeartbeats 64000000 in
theorem warmer_law (m : Mou) (f : Int) (hf0 : 0 ≤ f) (hf6 : f ≤ 65535) (yv zv yv2 zv2 : Value) (yl zl yl2 zl2 : List Int) (w : World) (hy : IntsIn .u16 w.heap.size w yv yl) (hz : IntsIn .u16 w.heap.size w zv zl) (hyr : ∀ x ∈ yl, 0 ≤ x ∧ x ≤ 65535) (hzr : ∀ x ∈ zl, 0 ≤ x ∧ x ≤ 65535) (hy2 : IntsIn .u16 w.heap.size w yv2 yl2) (hz2' : IntsIn .u16 w.heap.size w zv2 zl2) (hyr2 : ∀ x ∈ yl2, 0 ≤ x ∧ x ≤ 65535) (hzr2 : ∀ x ∈ zl2, 0 ≤ x ∧ x ≤ 65535) :
    Calls Try.prog 13 #[.agg #[.int .i64 m.rings, .int .i64 m.give, .int .i64 m.pl, .int .i64 m.ph, .int .i64 m.wl, .int .i64 m.wh, .int .i64 m.set, .int .i64 m.shrink, .int .i64 m.skin, .int .i64 m.fill, .int .i64 m.gap, .int .i64 m.deep], .int .u16 f, .agg #[yv, zv, yv2, zv2]] w (fun e w' => e = .returned (.bool true) ∧ Below w.heap.size w w') := by
  have HY := Lib.hid hy
  have HZ := Lib.hid hz
  have HYR := Lib.hid hyr
  have HZR := Lib.hid hzr
  have HY2 := Lib.hid hy2
  have HZ2 := Lib.hid hz2'
  have HY2R := Lib.hid hyr2
  have HZ2R := Lib.hid hzr2
  obtain ⟨ya, yc, rfl, -, -⟩ := hy
  obtain ⟨za, zc, rfl, -, -⟩ := hz
  obtain ⟨yb, yc2, rfl, -, -⟩ := hy2
  obtain ⟨zb, zc2, rfl, -, -⟩ := hz2'
  obtain ⟨yn, hyn⟩ : ∃ n, yl.length = n := ⟨_, rfl⟩
  obtain ⟨zn, hzn⟩ : ∃ n, zl.length = n := ⟨_, rfl⟩
  obtain ⟨yn2, hyn2⟩ : ∃ n, yl2.length = n := ⟨_, rfl⟩
  obtain ⟨zn2, hzn2⟩ : ∃ n, zl2.length = n := ⟨_, rfl⟩
  rw [hyn] at HY ⊢
  rw [hzn] at HZ ⊢
  rw [hyn2] at HY2 ⊢
  rw [hzn2] at HZ2 ⊢
  clear hyn hzn hyn2 hzn2 hyr hzr hyr2 hzr2
  have C0 := Lib.hid (((Bs.nil w).push _ rfl (.cells #[.int .i64 m.rings, .int .i64 m.give, .int .i64 m.pl, .int .i64 m.ph, .int .i64 m.wl, .int .i64 m.wh, .int .i64 m.set, .int .i64 m.shrink, .int .i64 m.skin, .int .i64 m.fill, .int .i64 m.gap, .int .i64 m.deep] 25)).push (w.heap.size + 1) (by simp) (.cells #[.slice ya yn yc, .slice za zn zc, .slice yb yn2 yc2, .slice zb zn2 zc2] 73))
  have HC : ∀ w, Hid (Calls Try.prog 19 #[.agg #[.int .i64 m.rings, .int .i64 m.give, .int .i64 m.pl, .int .i64 m.ph, .int .i64 m.wl, .int .i64 m.wh, .int .i64 m.set, .int .i64 m.shrink, .int .i64 m.skin, .int .i64 m.fill, .int .i64 m.gap, .int .i64 m.deep]] w fun e w' => e = .returned (.int .i64 (checkE m)) ∧ Below w.heap.size w w') := checkR_any m
  by_cases hc : checkE m = 0
  rotate_left
  · have hz : (checkE m != 0) = true := by simpa using hc
    clear hc
    generalize checkE m = E at *
    go_enter Try.func13, Try.ntmps13
    go_wp2_with (refine wpList_load_bs rfl 25 _ rfl C0.out 0 w.heap.size #[.int .i64 m.rings, .int .i64 m.give, .int .i64 m.pl, .int .i64 m.ph, .int .i64 m.wl, .int .i64 m.wh, .int .i64 m.set, .int .i64 m.shrink, .int .i64 m.skin, .int .i64 m.fill, .int .i64 m.gap, .int .i64 m.deep] 25 rfl rfl _ Try.underlying25 rfl info25 ?_)
    refine (HC _).out.mono ?_
    rintro e w1 ⟨rfl, hb⟩
    have C1 := Lib.hid (C0.out.call hb)
    clear hb C0
    go_wp2_with fail
    refine (awake_any _).mono ?_
    rintro e w4 ⟨rfl, hb⟩
    have HBel := Lib.hid (C1.out.call hb).bel
    clear hb C1
    go_wp2
    go_ret
    exact ⟨rfl, HBel.out⟩
  have hm := valid_of_check hc
  have HM := Lib.hid hm
  rw [hc] at HC
  have hn0 : 0 ≤ f % 601 := by omega
  have hn6 : f % 601 ≤ 600 := by omega
  obtain ⟨r, hr⟩ : ∃ r : Nat, m.rings = r := ⟨m.rings.toNat, by have := hm.r1; omega⟩
  have HRG := Lib.hid hr
  have HRN : Hid (m.rings.toNat = r) := by unfold Hid; omega
  have hr1 : 1 ≤ r := by have := hm.r1; omega
  have hr8 : r ≤ 8 := by have := hm.r8; omega
  obtain ⟨i0, hi0, hz0, hz1, hz2⟩ := info3'
  clear hc hr
  go_enter Try.func13, Try.ntmps13
  go_wp2_with (refine wpList_load_bs rfl 25 _ rfl C0.out 0 w.heap.size #[.int .i64 m.rings, .int .i64 m.give, .int .i64 m.pl, .int .i64 m.ph, .int .i64 m.wl, .int .i64 m.wh, .int .i64 m.set, .int .i64 m.shrink, .int .i64 m.skin, .int .i64 m.fill, .int .i64 m.gap, .int .i64 m.deep] 25 rfl rfl _ Try.underlying25 rfl info25 ?_)
  refine (HC _).out.mono ?_
  rintro e w1 ⟨rfl, hb⟩
  have C1 := Lib.hid (C0.out.call hb)
  clear hb C0 HC
  have c1 := C1.out.cell 1 rfl
  go_wp2_with (refine wpList_load_bs rfl 25 _ rfl C1.out 0 w.heap.size #[.int .i64 m.rings, .int .i64 m.give, .int .i64 m.pl, .int .i64 m.ph, .int .i64 m.wl, .int .i64 m.wh, .int .i64 m.set, .int .i64 m.shrink, .int .i64 m.skin, .int .i64 m.fill, .int .i64 m.gap, .int .i64 m.deep] 25 rfl rfl _ Try.underlying25 rfl info25 ?_)
  generalize f % 601 = z' at *
  obtain ⟨N, rfl⟩ : ∃ N : Nat, z' = N := ⟨z'.toNat, by omega⟩
  have hN6 : N ≤ 600 := by omega
  clear hn0 hn6 hf0 hf6 c1
  refine (truth_any m HM.out N hN6 (.slice ya yn yc) (.slice za zn zc) yl zl w1 ((HY.out.below C1.out.bel).mono C1.out.bel.size) ((HZ.out.below C1.out.bel).mono C1.out.bel.size) HYR.out HZR.out).mono ?_
  rintro e wT ⟨v1, v2, rfl, hi1, hi2, hb⟩
  have HPN : Hid ((truthPl m m.rings.toNat yl).length = r) := by unfold Hid; rw [truthPl, mapTo_len, HRN.out]
  have HWN : Hid ((truthWl m N zl).length = N) := mapTo_len _ _
  have HT1 := Lib.hid hi1
  have HT2 := Lib.hid hi2
  obtain ⟨pa, pc, e1, -⟩ := hi1
  rw [HPN.out] at e1
  obtain ⟨wa, wc, e2, -⟩ := hi2
  rw [HWN.out] at e2
  subst e1
  subst e2
  obtain ⟨_, _, hva, -, hcc⟩ := HT1.out
  simp only [Value.slice.injEq] at hva
  obtain ⟨rfl, -, rfl⟩ := hva
  obtain ⟨b1, o1, rfl, hbb1, hcell⟩ := hcc.resolve_left (by intro h; have := HPN.out; rw [h] at this; simp at this; omega)
  have K1 : Hid (∀ i, i < r → wT.cell? ⟨b1, o1 + i, none⟩ = some (.int .i64 ((truthPl m m.rings.toNat yl).getD i 0))) := fun i hi => hcell i (by rw [HPN.out]; exact hi)
  clear hcc hcell
  have C2 := Lib.hid (C1.out.call hb)
  have HWT : Hid (w.heap.size + 1 < wT.heap.size) := C2.out.lt 1 rfl
  have C5 : Hid (Bs w [(w.heap.size, .cells #[.int .i64 m.rings, .int .i64 m.give, .int .i64 m.pl, .int .i64 m.ph, .int .i64 m.wl, .int .i64 m.wh, .int .i64 m.set, .int .i64 m.shrink, .int .i64 m.skin, .int .i64 m.fill, .int .i64 m.gap, .int .i64 m.deep] 25), (w.heap.size + 1, .cells #[.slice ya yn yc, .slice za zn zc, .slice yb yn2 yc2, .slice zb zn2 zc2] 73), (wT.heap.size, .cells #[.slice (some ⟨b1, o1, none⟩) r pc, .slice wa N wc] 28), (wT.heap.size + 1, .cells #[.slice none 0 0, .slice none 0 0] 28)] _) := (C2.out.push wT.heap.size rfl (.cells #[.slice (some ⟨b1, o1, none⟩) r pc, .slice wa N wc] 28)).push (wT.heap.size + 1) (by simp) (.cells #[.slice none 0 0, .slice none 0 0] 28)
  clear hb C1 C2
  have HPB : Hid (∀ i, i < r → 0 ≤ (truthPl m m.rings.toNat yl).getD i 0 ∧ (truthPl m m.rings.toNat yl).getD i 0 ≤ 2000) := fun i hi => by
    have := (truth_fitsP HM.out yl) i (by rw [HPN.out]; exact hi)
    have := HM.out.p0
    have := HM.out.p2
    omega
  have HWB : Hid (∀ i, i < N → 0 ≤ (truthWl m N zl).getD i 0 ∧ (truthWl m N zl).getD i 0 ≤ 2000) := fun i hi => by
    have := (truth_fitsW HM.out zl N) i (by rw [HWN.out]; exact hi)
    have := HM.out.w0
    have := HM.out.w2
    omega
  -- what is known of the two truths
  have hPl : ((truthPl m m.rings.toNat yl).length : Int) = m.rings := by have := HPN.out; have := HRG.out; omega
  have leP : LeL (truthPl m m.rings.toNat yl) (wideP m r yl yl2) := leL_min (fun i hi => ((truth_fitsP HM.out yl) i hi).2) (fun i => (turnV_range HY2R.out i).1) HPN.out
  have leW : LeL (truthWl m N zl) (wideW m N zl zl2) := leL_min (fun i hi => ((truth_fitsW HM.out zl N) i hi).2) (fun i => (turnV_range HZ2R.out i).1) HWN.out
  have fiP : Fits2 m.pl m.ph (wideP m r yl yl2) := fits_min (truth_fitsP HM.out yl) (fun i => (turnV_range HY2R.out i).1) HPN.out
  have fiW : Fits2 m.wl m.wh (wideW m N zl zl2) := fits_min (truth_fitsW HM.out zl N) (fun i => (turnV_range HZ2R.out i).1) HWN.out
  have hP2 : (wideP m r yl yl2).length = r := mapTo_len _ _
  have hW2 : (wideW m N zl zl2).length = N := mapTo_len _ _
  have hg0 : 0 ≤ m.give := by have := HM.out.g1; omega
  have hla := runL_mono hg0 HM.out.g5 _ _ _ _ leP leW
  have hnl := whenL_mono HM.out leP leW
  have HC1 : ∀ w : World, IntsIn .i64 w.heap.size w (.slice (some ⟨b1, o1, none⟩) r pc) (truthPl m m.rings.toNat yl) → IntsIn .i64 w.heap.size w (.slice wa N wc) (truthWl m N zl) → Calls Try.prog 20 #[.agg #[.int .i64 m.rings, .int .i64 m.give, .int .i64 m.pl, .int .i64 m.ph, .int .i64 m.wl, .int .i64 m.wh, .int .i64 m.set, .int .i64 m.shrink, .int .i64 m.skin, .int .i64 m.fill, .int .i64 m.gap, .int .i64 m.deep], .agg #[.slice (some ⟨b1, o1, none⟩) r pc, .slice wa N wc]] w (RetLE (runL m.give (truthPl m m.rings.toNat yl) (truthWl m N zl)) 0 w) := fun w h1 h2 => by
    have := cool_any m _ _ _ _ w h1 h2
    rw [cool_ok HM.out hPl (truth_fitsP HM.out yl) (by rw [HWN.out]; omega) (truth_fitsW HM.out zl N)] at this
    exact this
  have HC2 : ∀ {a1 a2 : Option Addr} {c1 c2 : Nat} (w : World), IntsIn .i64 w.heap.size w (.slice a1 r c1) (wideP m r yl yl2) → IntsIn .i64 w.heap.size w (.slice a2 N c2) (wideW m N zl zl2) → Calls Try.prog 20 #[.agg #[.int .i64 m.rings, .int .i64 m.give, .int .i64 m.pl, .int .i64 m.ph, .int .i64 m.wl, .int .i64 m.wh, .int .i64 m.set, .int .i64 m.shrink, .int .i64 m.skin, .int .i64 m.fill, .int .i64 m.gap, .int .i64 m.deep], .agg #[.slice a1 r c1, .slice a2 N c2]] w (RetLE (runL m.give (wideP m r yl yl2) (wideW m N zl zl2)) 0 w) := fun w h1 h2 => by
    have := cool_any m _ _ _ _ w h1 h2
    rw [cool_ok HM.out (by rw [hP2]; have := HRG.out; omega) fiP (by rw [hW2]; omega) fiW] at this
    exact this
  have HWH1 : ∀ w : World, IntsIn .i64 w.heap.size w (.slice (some ⟨b1, o1, none⟩) r pc) (truthPl m m.rings.toNat yl) → IntsIn .i64 w.heap.size w (.slice wa N wc) (truthWl m N zl) → Calls Try.prog 40 #[.agg #[.int .i64 m.rings, .int .i64 m.give, .int .i64 m.pl, .int .i64 m.ph, .int .i64 m.wl, .int .i64 m.wh, .int .i64 m.set, .int .i64 m.shrink, .int .i64 m.skin, .int .i64 m.fill, .int .i64 m.gap, .int .i64 m.deep], .agg #[.slice (some ⟨b1, o1, none⟩) r pc, .slice wa N wc]] w (RetI (whenL m (truthPl m m.rings.toNat yl) (truthWl m N zl)) w) := fun w h1 h2 =>
    when_ref m HM.out.g1 HM.out.g5 _ _ _ _ w h1 h2 (by rw [HPN.out]; omega) (by rw [HPN.out]; omega) ((truth_fitsP HM.out yl).wide HM.out.p0 HM.out.p2) (by rw [HWN.out]; omega) ((truth_fitsW HM.out zl N).wide HM.out.w0 HM.out.w2)
  have HWH2 : ∀ {a1 a2 : Option Addr} {c1 c2 : Nat} (w : World), IntsIn .i64 w.heap.size w (.slice a1 r c1) (wideP m r yl yl2) → IntsIn .i64 w.heap.size w (.slice a2 N c2) (wideW m N zl zl2) → Calls Try.prog 40 #[.agg #[.int .i64 m.rings, .int .i64 m.give, .int .i64 m.pl, .int .i64 m.ph, .int .i64 m.wl, .int .i64 m.wh, .int .i64 m.set, .int .i64 m.shrink, .int .i64 m.skin, .int .i64 m.fill, .int .i64 m.gap, .int .i64 m.deep], .agg #[.slice a1 r c1, .slice a2 N c2]] w (RetI (whenL m (wideP m r yl yl2) (wideW m N zl zl2)) w) := fun w h1 h2 =>
    when_ref m HM.out.g1 HM.out.g5 _ _ _ _ w h1 h2 (by rw [hP2]; omega) (by rw [hP2]; omega) (fiP.wide HM.out.p0 HM.out.p2) (by rw [hW2]; omega) (fiW.wide HM.out.w0 HM.out.w2)
  have HLNA : Hid ((runL m.give (truthPl m m.rings.toNat yl) (truthWl m N zl)).length = r) := by unfold Hid; rw [runL_length, HPN.out]
  have HLNB : Hid ((runL m.give (wideP m r yl yl2) (wideW m N zl zl2)).length = r) := by unfold Hid; rw [runL_length, hP2]
  have HLN1 : Hid ((whenL m (truthPl m m.rings.toNat yl) (truthWl m N zl)).length = r) := by unfold Hid; rw [whenL_length, HPN.out]
  have HLN2 : Hid ((whenL m (wideP m r yl yl2) (wideW m N zl zl2)).length = r) := by unfold Hid; rw [whenL_length, hP2]
  have HCMP : Hid (∀ i, i < r → (runL m.give (truthPl m m.rings.toNat yl) (truthWl m N zl)).getD i 0 ≤ (runL m.give (wideP m r yl yl2) (wideW m N zl zl2)).getD i 0) := fun i hi => hla.2 i (by rw [HLNA.out]; exact hi)
  have HNL : Hid (∀ i, i < r → -1 ≤ (whenL m (truthPl m m.rings.toNat yl) (truthWl m N zl)).getD i 0 ∧ (0 ≤ (whenL m (wideP m r yl yl2) (wideW m N zl zl2)).getD i 0 → 0 ≤ (whenL m (truthPl m m.rings.toNat yl) (truthWl m N zl)).getD i 0 ∧ (whenL m (truthPl m m.rings.toNat yl) (truthWl m N zl)).getD i 0 ≤ (whenL m (wideP m r yl yl2) (wideW m N zl zl2)).getD i 0)) := fun i hi => hnl.2 i (by rw [HLN1.out]; exact hi)
  generalize runL m.give (truthPl m m.rings.toNat yl) (truthWl m N zl) = la at *
  generalize runL m.give (wideP m r yl yl2) (wideW m N zl zl2) = lb at *
  generalize whenL m (truthPl m m.rings.toNat yl) (truthWl m N zl) = wl1 at *
  generalize whenL m (wideP m r yl yl2) (wideW m N zl zl2) = wl2 at *
  clear hPl leP leW fiP fiW hP2 hW2 hla hnl hm hg0
  go_wp2_with fail
  have H5K : Hid (∀ b, b < wT.heap.size → ((wT.alloc (.cells #[.slice (some ⟨b1, o1, none⟩) r pc, .slice wa N wc] 28)).alloc (.cells #[.slice none 0 0, .slice none 0 0] 28)).heap[b]? = wT.heap[b]?) := fun b hb => (((Below.refl wT.heap.size wT).alloc (Nat.le_refl _) _).alloc (by simp) _).block b hb
  have H5S : Hid (wT.heap.size + 1 + 1 ≤ ((wT.alloc (.cells #[.slice (some ⟨b1, o1, none⟩) r pc, .slice wa N wc] 28)).alloc (.cells #[.slice none 0 0, .slice none 0 0] 28)).heap.size) := by unfold Hid; simp
  generalize (wT.alloc (.cells #[.slice (some ⟨b1, o1, none⟩) r pc, .slice wa N wc] 28)).alloc (.cells #[.slice none 0 0, .slice none 0 0] 28) = W5 at *
  go_loopw [10] (fun iv wr => ∃ (k : Nat) (a8 : Option Addr) (c8 : Nat), iv = .int .i64 k ∧ k ≤ r ∧ Bs w [(w.heap.size, .cells #[.int .i64 m.rings, .int .i64 m.give, .int .i64 m.pl, .int .i64 m.ph, .int .i64 m.wl, .int .i64 m.wh, .int .i64 m.set, .int .i64 m.shrink, .int .i64 m.skin, .int .i64 m.fill, .int .i64 m.gap, .int .i64 m.deep] 25), (w.heap.size + 1, .cells #[.slice ya yn yc, .slice za zn zc, .slice yb yn2 yc2, .slice zb zn2 zc2] 73), (wT.heap.size, .cells #[.slice (some ⟨b1, o1, none⟩) r pc, .slice wa N wc] 28), (wT.heap.size + 1, .cells #[.slice a8 k c8, .slice none 0 0] 28)] wr ∧ wr.ownsRow (W5.heap.size) 3 1 (.slice a8 k c8) k ((mapTo (fun i => min m.ph ((truthPl m m.rings.toNat yl).getD i 0 + turnV yl2 i)) k).map (Value.int .i64)) ∧ KB (W5.heap.size) (wT.heap.size + 1) W5 wr ∧ W5.heap.size ≤ wr.heap.size) (fun iv _ => r - (intOf iv).toNat)
  case atStart => exact ⟨0, none, 0, rfl, by omega, C5.out, World.ownsRow_nil _ _ 3 1, fun _ _ _ => rfl, Nat.le_refl _⟩
  case round =>
    obtain ⟨k, a8, c8, rfl, hk, hC, hO, hKB, hS⟩ := hrel
    have CK := Lib.hid hC
    have OK := Lib.hid hO
    have HKB := Lib.hid hKB
    have HS := Lib.hid hS
    have c00 := hC.cell 2 rfl
    clear hO hC C5 hKB hS
    by_cases hlt : k < r
    · have hki : (k : Int) < (r : Int) := by omega
      obtain ⟨hp1, hp2⟩ := HPB.out k hlt
      obtain ⟨ht1, ht2⟩ := turnV_range HY2R.out k
      have HTU := fun (wz : World) (h : IntsIn .u16 wz.heap.size wz (.slice yb yn2 yc2) yl2) => Lib.hid (turn_any yl2 (.slice yb yn2 yc2) k (by omega) wz h HY2R.out)
      generalize hpk : (truthPl m m.rings.toNat yl).getD k 0 = pk at *
      generalize htk : turnV yl2 k = tk at *
      have HPK := Lib.hid hpk
      have HTK := Lib.hid htk
      clear hpk htk
      go_wp2_with fail
      clear c00
      refine wp_region_inv1 (by kernel_rfl) (by kernel_rfl) [56, 57] (fun D y w' => TrW w [(w.heap.size, .cells #[.int .i64 m.rings, .int .i64 m.give, .int .i64 m.pl, .int .i64 m.ph, .int .i64 m.wl, .int .i64 m.wh, .int .i64 m.set, .int .i64 m.shrink, .int .i64 m.skin, .int .i64 m.fill, .int .i64 m.gap, .int .i64 m.deep] 25), (w.heap.size + 1, .cells #[.slice ya yn yc, .slice za zn zc, .slice yb yn2 yc2, .slice zb zn2 zc2] 73), (wT.heap.size, .cells #[.slice (some ⟨b1, o1, none⟩) r pc, .slice wa N wc] 28), (wT.heap.size + 1, .cells #[.slice a8 k c8, .slice none 0 0] 28)] (fun v => [(w.heap.size, .cells #[.int .i64 m.rings, .int .i64 m.give, .int .i64 m.pl, .int .i64 m.ph, .int .i64 m.wl, .int .i64 m.wh, .int .i64 m.set, .int .i64 m.shrink, .int .i64 m.skin, .int .i64 m.fill, .int .i64 m.gap, .int .i64 m.deep] 25), (w.heap.size + 1, .cells #[.slice ya yn yc, .slice za zn zc, .slice yb yn2 yc2, .slice zb zn2 zc2] 73), (wT.heap.size, .cells #[.slice (some ⟨b1, o1, none⟩) r pc, .slice wa N wc] 28), (wT.heap.size + 1, .cells #[v, .slice none 0 0] 28)]) W5 (W5.heap.size) (wT.heap.size + 1) k (.slice a8 k c8) ((mapTo (fun i => min m.ph ((truthPl m m.rings.toNat yl).getD i 0 + turnV yl2 i)) k).map (Value.int .i64)) (.int .i64 (min m.ph (pk + tk))) (D 17) (D 18) (D 20) (y 56) (y 57) w') ?_ ?F0 ?hF0 ?_
      · exact ⟨fun _ => CK.out.drew, fun h => (by cases h), fun _ => ownsRow.below OK.out (Below.refl _ _).drew, fun h => (by cases h), fun h => (by cases h), HKB.out, HS.out⟩
      case hF0 =>
        intro y
        simp only [fill, List.foldl, Act.put, List.setIfInBounds_toArray, List.set]
        exact rfl
      apply obl_det
      case hrun =>
        intro D y wz hW hD R hR
        have HRR := Lib.hid hR
        clear hR
        have HW := Lib.hid hW
        clear hW hD
        go_wp2
        exact HRR.out _ HW.out
      case hnp => rfl
      case hv => first | exact ⟨_, fun _ => rfl⟩ | exact ⟨undef, fun _ => rfl⟩
      apply obl_det
      case hrun =>
        intro D y wz hW hD R hR
        have HRR := Lib.hid hR
        clear hR
        have HW := Lib.hid hW
        have h12 : D 20 = false := hD.post _ 20 rfl (by kernel_rfl)
        have c7 := (hW.bs1 h12).cell 3 rfl
        clear hW hD
        go_wp2
        exact HRR.out _ HW.out
      case hnp => rfl
      case hv => first | exact ⟨_, fun _ => rfl⟩ | exact ⟨undef, fun _ => rfl⟩
      apply obl_det
      case hrun =>
        intro D y wz hW hD R hR
        have HRR := Lib.hid hR
        clear hR
        have HW := Lib.hid hW
        clear hW hD
        go_wp2
        exact HRR.out _ HW.out
      case hnp => rfl
      case hv => first | exact ⟨_, fun _ => rfl⟩ | exact ⟨undef, fun _ => rfl⟩
      apply obl_det
      case hrun =>
        intro D y wz hW hD R hR
        have HRR := Lib.hid hR
        clear hR
        have HW := Lib.hid hW
        clear hW hD
        go_wp2
        exact HRR.out _ HW.out
      case hnp => rfl
      case hv => first | exact ⟨_, fun _ => rfl⟩ | exact ⟨undef, fun _ => rfl⟩
      apply obl_det
      case hrun =>
        intro D y wz hW hD R hR
        have HRR := Lib.hid hR
        clear hR
        have HW := Lib.hid hW
        have h12 : D 20 = false := hD.post _ 20 rfl (by kernel_rfl)
        have c0 := (hW.bs1 h12).cell 0 rfl
        clear hW hD
        go_wp2
        exact HRR.out _ HW.out
      case hnp => rfl
      case hv => first | exact ⟨_, fun _ => rfl⟩ | exact ⟨undef, fun _ => rfl⟩
      apply obl_det
      case hrun =>
        intro D y wz hW hD R hR
        have HRR := Lib.hid hR
        clear hR
        have HW := Lib.hid hW
        clear hW hD
        go_wp2
        exact HRR.out _ HW.out
      case hnp => rfl
      case hv => first | exact ⟨_, fun _ => rfl⟩ | exact ⟨undef, fun _ => rfl⟩
      apply obl_det
      case hrun =>
        intro D y wz hW hD R hR
        have HRR := Lib.hid hR
        clear hR
        have HW := Lib.hid hW
        have h12 : D 20 = false := hD.post _ 20 rfl (by kernel_rfl)
        have c6 := (hW.bs1 h12).cell 2 rfl
        clear hW hD
        go_wp2
        exact HRR.out _ HW.out
      case hnp => rfl
      case hv => first | exact ⟨_, fun _ => rfl⟩ | exact ⟨undef, fun _ => rfl⟩
      apply obl_det
      case hrun =>
        intro D y wz hW hD R hR
        have HRR := Lib.hid hR
        clear hR
        have HW := Lib.hid hW
        clear hW hD
        go_wp2
        exact HRR.out _ HW.out
      case hnp => rfl
      case hv => first | exact ⟨_, fun _ => rfl⟩ | exact ⟨undef, fun _ => rfl⟩
      apply obl_det
      case hrun =>
        intro D y wz hW hD R hR
        have HRR := Lib.hid hR
        clear hR
        have HW := Lib.hid hW
        clear hW hD
        go_wp2
        exact HRR.out _ HW.out
      case hnp => rfl
      case hv => first | exact ⟨_, fun _ => rfl⟩ | exact ⟨undef, fun _ => rfl⟩
      apply obl_det
      case hrun =>
        intro D y wz hW hD R hR
        have HRR := Lib.hid hR
        clear hR
        have HW := Lib.hid hW
        have hkt : ∀ b, b < wT.heap.size → wz.heap[b]? = wT.heap[b]? := fun b hb => (hW.kb b (by have := H5S.out; omega) (by omega)).trans (H5K.out b hb)
        have ck2 : wz.cell? ⟨b1, o1 + k, none⟩ = some (.int .i64 pk) := by rw [← HPK.out, ← K1.out k (by omega)]; simp only [World.cell?, hkt b1 hbb1]
        clear hkt
        clear hW hD
        go_wp2
        exact HRR.out _ HW.out
      case hnp => rfl
      case hv => first | exact ⟨_, fun _ => rfl⟩ | exact ⟨undef, fun _ => rfl⟩
      apply obl_det
      case hrun =>
        intro D y wz hW hD R hR
        have HRR := Lib.hid hR
        clear hR
        have HW := Lib.hid hW
        clear hW hD
        go_wp2
        exact HRR.out _ HW.out
      case hnp => rfl
      case hv => first | exact ⟨_, fun _ => rfl⟩ | exact ⟨undef, fun _ => rfl⟩
      apply obl_det
      case hrun =>
        intro D y wz hW hD R hR
        have HRR := Lib.hid hR
        clear hR
        have HW := Lib.hid hW
        clear hW hD
        go_wp2
        exact HRR.out _ HW.out
      case hnp => rfl
      case hv => first | exact ⟨_, fun _ => rfl⟩ | exact ⟨undef, fun _ => rfl⟩
      apply obl_det
      case hrun =>
        intro D y wz hW hD R hR
        have HRR := Lib.hid hR
        clear hR
        have HW := Lib.hid hW
        have h12 : D 20 = false := hD.post _ 20 rfl (by kernel_rfl)
        have c1 := (hW.bs1 h12).cell 1 rfl
        clear hW hD
        go_wp2
        exact HRR.out _ HW.out
      case hnp => rfl
      case hv => first | exact ⟨_, fun _ => rfl⟩ | exact ⟨undef, fun _ => rfl⟩
      apply obl_det
      case hrun =>
        intro D y wz hW hD R hR
        have HRR := Lib.hid hR
        clear hR
        have HW := Lib.hid hW
        clear hW hD
        go_wp2
        exact HRR.out _ HW.out
      case hnp => rfl
      case hv => first | exact ⟨_, fun _ => rfl⟩ | exact ⟨undef, fun _ => rfl⟩
      apply obl_det
      case hrun =>
        intro D y wz hW hD R hR
        have HRR := Lib.hid hR
        clear hR
        have HW := Lib.hid hW
        have h12 : D 20 = false := hD.post _ 20 rfl (by kernel_rfl)
        have HYW := Lib.hid ((HY2.out.below (hW.bs1 h12).bel).mono (hW.bs1 h12).bel.size)
        clear hW hD
        go_wp2_with fail
        refine (HTU wz HYW.out).out.mono ?_
        rintro e w' ⟨rfl, rfl⟩
        go_wp2_with fail
        exact HRR.out _ HW.out
      case hnp => rfl
      case hv => first | exact ⟨_, fun _ => rfl⟩ | exact ⟨undef, fun _ => rfl⟩
      apply obl_det
      case hrun =>
        intro D y wz hW hD R hR
        have HRR := Lib.hid hR
        clear hR
        have HW := Lib.hid hW
        clear hW hD
        go_wp2
        exact HRR.out _ HW.out
      case hnp => rfl
      case hv => first | exact ⟨_, fun _ => rfl⟩ | exact ⟨undef, fun _ => rfl⟩
      apply obl_det
      case hrun =>
        intro D y wz hW hD R hR
        have HRR := Lib.hid hR
        clear hR
        have HW := Lib.hid hW
        clear hW hD
        go_wp2
        exact HRR.out _ HW.out
      case hnp => rfl
      case hv => first | exact ⟨_, fun _ => rfl⟩ | exact ⟨undef, fun _ => rfl⟩
      apply obl_priv 56
      case hd => rfl
      case hp => rfl
      case hrun =>
        intro D y wz hW hD R hR
        have HRR := Lib.hid hR
        clear hR
        have h12 : D 20 = false := hD.post _ 20 rfl (by kernel_rfl)
        have h10 : D 18 = false := hD.post _ 18 rfl (by kernel_rfl)
        have HW := Lib.hid hW
        have H10 := Lib.hid h10
        have H12 := Lib.hid h12
        clear hW hD h10 h12
        go_wp2_with fail
        refine HRR.out _ _ ?_
        show TrW w [(w.heap.size, .cells #[.int .i64 m.rings, .int .i64 m.give, .int .i64 m.pl, .int .i64 m.ph, .int .i64 m.wl, .int .i64 m.wh, .int .i64 m.set, .int .i64 m.shrink, .int .i64 m.skin, .int .i64 m.fill, .int .i64 m.gap, .int .i64 m.deep] 25), (w.heap.size + 1, .cells #[.slice ya yn yc, .slice za zn zc, .slice yb yn2 yc2, .slice zb zn2 zc2] 73), (wT.heap.size, .cells #[.slice (some ⟨b1, o1, none⟩) r pc, .slice wa N wc] 28), (wT.heap.size + 1, .cells #[.slice a8 k c8, .slice none 0 0] 28)] (fun v => [(w.heap.size, .cells #[.int .i64 m.rings, .int .i64 m.give, .int .i64 m.pl, .int .i64 m.ph, .int .i64 m.wl, .int .i64 m.wh, .int .i64 m.set, .int .i64 m.shrink, .int .i64 m.skin, .int .i64 m.fill, .int .i64 m.gap, .int .i64 m.deep] 25), (w.heap.size + 1, .cells #[.slice ya yn yc, .slice za zn zc, .slice yb yn2 yc2, .slice zb zn2 zc2] 73), (wT.heap.size, .cells #[.slice (some ⟨b1, o1, none⟩) r pc, .slice wa N wc] 28), (wT.heap.size + 1, .cells #[v, .slice none 0 0] 28)]) W5 (W5.heap.size) (wT.heap.size + 1) k (.slice a8 k c8) ((mapTo (fun i => min m.ph ((truthPl m m.rings.toNat yl).getD i 0 + turnV yl2 i)) k).map (Value.int .i64)) (.int .i64 (min m.ph (pk + tk))) true (D 18) (D 20) (.slice (some ⟨wz.heap.size, 0, none⟩) 1 1) (y 57) _
        exact (HW.out.next ((Below.refl _ _).alloc (Nat.le_refl _) _)).laid H10.out (heap_alloc_new _ _)
      apply obl_priv 57
      case hd => rfl
      case hp => rfl
      case hrun =>
        intro D y wz hW hD R hR
        have HRR := Lib.hid hR
        clear hR
        have h12 : D 20 = false := hD.post _ 20 rfl (by kernel_rfl)
        have h10 : D 18 = false := hD.not
        have h9 : D 17 = true := hD.pre _ 17 rfl (by kernel_rfl)
        obtain ⟨b9, e9, hb9⟩ := hW.src h9 h10
        have ho := hW.own h10
        have hs := hW.hs
        have HW := Lib.hid hW
        have H12 := Lib.hid h12
        have HB9 := Lib.hid hb9
        have E9 := Lib.hid e9
        clear hW hD h10 h12 h9 hb9 e9
        refine wpList_append_own _ rfl _ _ 26 rfl (W5.heap.size) 3 i0 (.int .i64 0) 1 8 Try.underlying26 hi0 hz0 hz1 hz2 rfl (by decide) _ _ _ rfl ho ⟨b9, 0, none⟩ 1 1 [.int .i64 (min m.ph (pk + tk))] E9.out rfl (cell_news _ _ _ _ HB9.out) (one_int _) (by unfold maxLen; omega) (by omega) hs ?_
        intro v' w12 hown12 hgrow12 _
        have hlt12 := World.ownsRow.lt ho
        have hb12 : Below (W5.heap.size) wz w12 := (Below.refl (W5.heap.size) wz).grown hgrow12 hs (fun k e => (hlt12 k e).1)
        have HN := Lib.hid (HW.out.got H12.out hb12 (by have := H5S.out; have := HWT.out; simp; omega) (by have := H5S.out; have := HWT.out; omega) hown12)
        clear hown12 hgrow12 hlt12 hb12 ho
        go_wp2
        refine HRR.out v' _ ?_
        exact HN.out
      apply obl_det
      case hrun =>
        intro D y wz hW hD R hR
        have HRR := Lib.hid hR
        clear hR
        have HW := Lib.hid hW
        clear hW hD
        go_wp2
        exact HRR.out _ HW.out
      case hnp => rfl
      case hv => first | exact ⟨_, fun _ => rfl⟩ | exact ⟨undef, fun _ => rfl⟩
      apply obl_det
      case hrun =>
        intro D y wz hW hD R hR
        have HRR := Lib.hid hR
        clear hR
        have HW := Lib.hid hW
        have h12 : D 20 = false := hD.not
        have h10 : D 18 = true := hD.pre _ 18 rfl (by kernel_rfl)
        have H10 := Lib.hid h10
        have H12 := Lib.hid h12
        have H1c : Hid ((y 57).oneCell' = true) := by obtain ⟨a, c, e⟩ := ownsRow_slice (hW.new h10); unfold Hid; rw [e]; rfl
        clear h10 h12
        clear hW hD
        refine wpList_cell_bz rfl 26 _ _ rfl (HW.out.bs1 H12.out) 3 (wT.heap.size + 1) 0 _ _ rfl rfl (y 57) rfl (by simp) H1c.out info26 ?_
        intro w13 hC13 hk13 hs13
        have HN := Lib.hid (HW.out.put H10.out H12.out (by have := H5S.out; omega) (by have := H5S.out; have := HWT.out; omega) hC13 hk13 hs13)
        clear hC13 hk13 hs13
        go_wp2
        exact HRR.out _ HN.out
      case hnp => rfl
      case hv => first | exact ⟨_, fun _ => rfl⟩ | exact ⟨undef, fun _ => rfl⟩
      apply obl_nil
      intro D y w8 hall hW
      have d9 := hall 17 (by decide)
      have d10 := hall 18 (by decide)
      have d12 := hall 20 (by decide)
      have HN := Lib.hid (hW.new d10)
      have HC8 := Lib.hid (hW.bs2 d12)
      have HKB := Lib.hid hW.kb
      have HS := Lib.hid hW.hs
      clear hW hall d9 d10 d12
      generalize y 57 = y' at *
      obtain ⟨a9, c9, rfl⟩ := ownsRow_slice1 HN.out
      clear CK OK
      go_wp2_with fail
      refine ⟨⟨k + 1, a9, c9, by push_cast; rfl, by omega, HC8.out, ?_, HKB.out, HS.out⟩, ?_⟩
      · rw [mapTo_succ, List.map_append, HPK.out, HTK.out]
        exact HN.out
      · simp [intOf]
        omega
    · obtain rfl : r = k := by omega

      have CE0 := Lib.hid CK.out
      have HI1 : Hid (LV (wT.heap.size + 1) r wr (.slice a8 r c8) (wideP m r yl yl2)) := LV.own (l := wideP m r yl yl2) (base := W5.heap.size) (by unfold OwnInts; rw [wideP, mapTo_len]; have h := OK.out; rw [← HRN.out] at h ⊢; exact h) (mapTo_len _ _) hr1 (fun b h1 _ => by have := H5S.out; omega) (by omega)
      have H2K := HKB
      have H2S := HS
      go_wp2_with fail
      clear c00 OK CK HKB HS
      generalize wr = W2 at *
      generalize a8 = av1 at *
      generalize c8 = cv1 at *
      have CE := Lib.hid CE0.out
      clear CE0
      go_loopw [11] (fun iv wr => ∃ (k : Nat) (a8 : Option Addr) (c8 : Nat), iv = .int .i64 k ∧ k ≤ N ∧ Bs w [(w.heap.size, .cells #[.int .i64 m.rings, .int .i64 m.give, .int .i64 m.pl, .int .i64 m.ph, .int .i64 m.wl, .int .i64 m.wh, .int .i64 m.set, .int .i64 m.shrink, .int .i64 m.skin, .int .i64 m.fill, .int .i64 m.gap, .int .i64 m.deep] 25), (w.heap.size + 1, .cells #[.slice ya yn yc, .slice za zn zc, .slice yb yn2 yc2, .slice zb zn2 zc2] 73), (wT.heap.size, .cells #[.slice (some ⟨b1, o1, none⟩) r pc, .slice wa N wc] 28), (wT.heap.size + 1, .cells #[.slice av1 r cv1, .slice a8 k c8] 28)] wr ∧ wr.ownsRow (W2.heap.size) 3 1 (.slice a8 k c8) k ((mapTo (fun i => min m.wh ((truthWl m N zl).getD i 0 + turnV zl2 i)) k).map (Value.int .i64)) ∧ KB (W2.heap.size) (wT.heap.size + 1) W2 wr ∧ W2.heap.size ≤ wr.heap.size) (fun iv _ => N - (intOf iv).toNat)
      case atStart => exact ⟨0, none, 0, rfl, by omega, CE.out, World.ownsRow_nil _ _ 3 1, fun _ _ _ => rfl, Nat.le_refl _⟩
      case round =>
        obtain ⟨k, a8, c8, rfl, hk, hC, hO, hKB, hS⟩ := hrel
        have CK := Lib.hid hC
        have OK := Lib.hid hO
        have HKB := Lib.hid hKB
        have HS := Lib.hid hS
        have c00 := hC.cell 2 rfl
        clear hO hC CE hKB hS
        by_cases hlt : k < N
        · have hki : (k : Int) < (N : Int) := by omega
          obtain ⟨_, _, hva, -, hcc⟩ := HT2.out
          simp only [Value.slice.injEq] at hva
          obtain ⟨rfl, -, rfl⟩ := hva
          obtain ⟨b2, o2, rfl, hbb2, hcell⟩ := hcc.resolve_left (by intro h; have := HWN.out; rw [h] at this; simp at this; omega)
          have K2 : Hid (∀ i, i < N → wT.cell? ⟨b2, o2 + i, none⟩ = some (.int .i64 ((truthWl m N zl).getD i 0))) := fun i hi => hcell i (by rw [HWN.out]; exact hi)
          clear hcc hcell
          obtain ⟨hp1, hp2⟩ := HWB.out k hlt
          obtain ⟨ht1, ht2⟩ := turnV_range HZ2R.out k
          have HTU := fun (wz : World) (h : IntsIn .u16 wz.heap.size wz (.slice zb zn2 zc2) zl2) => Lib.hid (turn_any zl2 (.slice zb zn2 zc2) k (by omega) wz h HZ2R.out)
          generalize hpk : (truthWl m N zl).getD k 0 = pk at *
          generalize htk : turnV zl2 k = tk at *
          have HPK := Lib.hid hpk
          have HTK := Lib.hid htk
          clear hpk htk
          go_wp2_with fail
          clear c00
          refine wp_region_inv1 (by kernel_rfl) (by kernel_rfl) [81, 82] (fun D y w' => TrW w [(w.heap.size, .cells #[.int .i64 m.rings, .int .i64 m.give, .int .i64 m.pl, .int .i64 m.ph, .int .i64 m.wl, .int .i64 m.wh, .int .i64 m.set, .int .i64 m.shrink, .int .i64 m.skin, .int .i64 m.fill, .int .i64 m.gap, .int .i64 m.deep] 25), (w.heap.size + 1, .cells #[.slice ya yn yc, .slice za zn zc, .slice yb yn2 yc2, .slice zb zn2 zc2] 73), (wT.heap.size, .cells #[.slice (some ⟨b1, o1, none⟩) r pc, .slice (some ⟨b2, o2, none⟩) N wc] 28), (wT.heap.size + 1, .cells #[.slice av1 r cv1, .slice a8 k c8] 28)] (fun v => [(w.heap.size, .cells #[.int .i64 m.rings, .int .i64 m.give, .int .i64 m.pl, .int .i64 m.ph, .int .i64 m.wl, .int .i64 m.wh, .int .i64 m.set, .int .i64 m.shrink, .int .i64 m.skin, .int .i64 m.fill, .int .i64 m.gap, .int .i64 m.deep] 25), (w.heap.size + 1, .cells #[.slice ya yn yc, .slice za zn zc, .slice yb yn2 yc2, .slice zb zn2 zc2] 73), (wT.heap.size, .cells #[.slice (some ⟨b1, o1, none⟩) r pc, .slice (some ⟨b2, o2, none⟩) N wc] 28), (wT.heap.size + 1, .cells #[.slice av1 r cv1, v] 28)]) W2 (W2.heap.size) (wT.heap.size + 1) k (.slice a8 k c8) ((mapTo (fun i => min m.wh ((truthWl m N zl).getD i 0 + turnV zl2 i)) k).map (Value.int .i64)) (.int .i64 (min m.wh (pk + tk))) (D 17) (D 18) (D 20) (y 81) (y 82) w') ?_ ?F1 ?hF1 ?_
          · exact ⟨fun _ => CK.out.drew, fun h => (by cases h), fun _ => ownsRow.below OK.out (Below.refl _ _).drew, fun h => (by cases h), fun h => (by cases h), HKB.out, HS.out⟩
          case hF1 =>
            intro y
            simp only [fill, List.foldl, Act.put, List.setIfInBounds_toArray, List.set]
            exact rfl
          apply obl_det
          case hrun =>
            intro D y wz hW hD R hR
            have HRR := Lib.hid hR
            clear hR
            have HW := Lib.hid hW
            clear hW hD
            go_wp2
            exact HRR.out _ HW.out
          case hnp => rfl
          case hv => first | exact ⟨_, fun _ => rfl⟩ | exact ⟨undef, fun _ => rfl⟩
          apply obl_det
          case hrun =>
            intro D y wz hW hD R hR
            have HRR := Lib.hid hR
            clear hR
            have HW := Lib.hid hW
            have h12 : D 20 = false := hD.post _ 20 rfl (by kernel_rfl)
            have c7 := (hW.bs1 h12).cell 3 rfl
            clear hW hD
            go_wp2
            exact HRR.out _ HW.out
          case hnp => rfl
          case hv => first | exact ⟨_, fun _ => rfl⟩ | exact ⟨undef, fun _ => rfl⟩
          apply obl_det
          case hrun =>
            intro D y wz hW hD R hR
            have HRR := Lib.hid hR
            clear hR
            have HW := Lib.hid hW
            clear hW hD
            go_wp2
            exact HRR.out _ HW.out
          case hnp => rfl
          case hv => first | exact ⟨_, fun _ => rfl⟩ | exact ⟨undef, fun _ => rfl⟩
          apply obl_det
          case hrun =>
            intro D y wz hW hD R hR
            have HRR := Lib.hid hR
            clear hR
            have HW := Lib.hid hW
            clear hW hD
            go_wp2
            exact HRR.out _ HW.out
          case hnp => rfl
          case hv => first | exact ⟨_, fun _ => rfl⟩ | exact ⟨undef, fun _ => rfl⟩
          apply obl_det
          case hrun =>
            intro D y wz hW hD R hR
            have HRR := Lib.hid hR
            clear hR
            have HW := Lib.hid hW
            have h12 : D 20 = false := hD.post _ 20 rfl (by kernel_rfl)
            have c0 := (hW.bs1 h12).cell 0 rfl
            clear hW hD
            go_wp2
            exact HRR.out _ HW.out
          case hnp => rfl
          case hv => first | exact ⟨_, fun _ => rfl⟩ | exact ⟨undef, fun _ => rfl⟩
          apply obl_det
          case hrun =>
            intro D y wz hW hD R hR
            have HRR := Lib.hid hR
            clear hR
            have HW := Lib.hid hW
            clear hW hD
            go_wp2
            exact HRR.out _ HW.out
          case hnp => rfl
          case hv => first | exact ⟨_, fun _ => rfl⟩ | exact ⟨undef, fun _ => rfl⟩
          apply obl_det
          case hrun =>
            intro D y wz hW hD R hR
            have HRR := Lib.hid hR
            clear hR
            have HW := Lib.hid hW
            have h12 : D 20 = false := hD.post _ 20 rfl (by kernel_rfl)
            have c6 := (hW.bs1 h12).cell 2 rfl
            clear hW hD
            go_wp2
            exact HRR.out _ HW.out
          case hnp => rfl
          case hv => first | exact ⟨_, fun _ => rfl⟩ | exact ⟨undef, fun _ => rfl⟩
          apply obl_det
          case hrun =>
            intro D y wz hW hD R hR
            have HRR := Lib.hid hR
            clear hR
            have HW := Lib.hid hW
            clear hW hD
            go_wp2
            exact HRR.out _ HW.out
          case hnp => rfl
          case hv => first | exact ⟨_, fun _ => rfl⟩ | exact ⟨undef, fun _ => rfl⟩
          apply obl_det
          case hrun =>
            intro D y wz hW hD R hR
            have HRR := Lib.hid hR
            clear hR
            have HW := Lib.hid hW
            clear hW hD
            go_wp2
            exact HRR.out _ HW.out
          case hnp => rfl
          case hv => first | exact ⟨_, fun _ => rfl⟩ | exact ⟨undef, fun _ => rfl⟩
          apply obl_det
          case hrun =>
            intro D y wz hW hD R hR
            have HRR := Lib.hid hR
            clear hR
            have HW := Lib.hid hW
            have hkt : ∀ b, b < wT.heap.size → wz.heap[b]? = wT.heap[b]? := fun b hb => (hW.kb b (by have := H2S.out; have := H5S.out; omega) (by omega)).trans ((H2K.out b (by have := H5S.out; omega) (by omega)).trans (H5K.out b hb))
            have ck2 : wz.cell? ⟨b2, o2 + k, none⟩ = some (.int .i64 pk) := by rw [← HPK.out, ← K2.out k (by omega)]; simp only [World.cell?, hkt b2 hbb2]
            clear hkt
            clear hW hD
            go_wp2
            exact HRR.out _ HW.out
          case hnp => rfl
          case hv => first | exact ⟨_, fun _ => rfl⟩ | exact ⟨undef, fun _ => rfl⟩
          apply obl_det
          case hrun =>
            intro D y wz hW hD R hR
            have HRR := Lib.hid hR
            clear hR
            have HW := Lib.hid hW
            clear hW hD
            go_wp2
            exact HRR.out _ HW.out
          case hnp => rfl
          case hv => first | exact ⟨_, fun _ => rfl⟩ | exact ⟨undef, fun _ => rfl⟩
          apply obl_det
          case hrun =>
            intro D y wz hW hD R hR
            have HRR := Lib.hid hR
            clear hR
            have HW := Lib.hid hW
            clear hW hD
            go_wp2
            exact HRR.out _ HW.out
          case hnp => rfl
          case hv => first | exact ⟨_, fun _ => rfl⟩ | exact ⟨undef, fun _ => rfl⟩
          apply obl_det
          case hrun =>
            intro D y wz hW hD R hR
            have HRR := Lib.hid hR
            clear hR
            have HW := Lib.hid hW
            have h12 : D 20 = false := hD.post _ 20 rfl (by kernel_rfl)
            have c1 := (hW.bs1 h12).cell 1 rfl
            clear hW hD
            go_wp2
            exact HRR.out _ HW.out
          case hnp => rfl
          case hv => first | exact ⟨_, fun _ => rfl⟩ | exact ⟨undef, fun _ => rfl⟩
          apply obl_det
          case hrun =>
            intro D y wz hW hD R hR
            have HRR := Lib.hid hR
            clear hR
            have HW := Lib.hid hW
            clear hW hD
            go_wp2
            exact HRR.out _ HW.out
          case hnp => rfl
          case hv => first | exact ⟨_, fun _ => rfl⟩ | exact ⟨undef, fun _ => rfl⟩
          apply obl_det
          case hrun =>
            intro D y wz hW hD R hR
            have HRR := Lib.hid hR
            clear hR
            have HW := Lib.hid hW
            have h12 : D 20 = false := hD.post _ 20 rfl (by kernel_rfl)
            have HYW := Lib.hid ((HZ2.out.below (hW.bs1 h12).bel).mono (hW.bs1 h12).bel.size)
            clear hW hD
            go_wp2_with fail
            refine (HTU wz HYW.out).out.mono ?_
            rintro e w' ⟨rfl, rfl⟩
            go_wp2_with fail
            exact HRR.out _ HW.out
          case hnp => rfl
          case hv => first | exact ⟨_, fun _ => rfl⟩ | exact ⟨undef, fun _ => rfl⟩
          apply obl_det
          case hrun =>
            intro D y wz hW hD R hR
            have HRR := Lib.hid hR
            clear hR
            have HW := Lib.hid hW
            clear hW hD
            go_wp2
            exact HRR.out _ HW.out
          case hnp => rfl
          case hv => first | exact ⟨_, fun _ => rfl⟩ | exact ⟨undef, fun _ => rfl⟩
          apply obl_det
          case hrun =>
            intro D y wz hW hD R hR
            have HRR := Lib.hid hR
            clear hR
            have HW := Lib.hid hW
            clear hW hD
            go_wp2
            exact HRR.out _ HW.out
          case hnp => rfl
          case hv => first | exact ⟨_, fun _ => rfl⟩ | exact ⟨undef, fun _ => rfl⟩
          apply obl_priv 81
          case hd => rfl
          case hp => rfl
          case hrun =>
            intro D y wz hW hD R hR
            have HRR := Lib.hid hR
            clear hR
            have h12 : D 20 = false := hD.post _ 20 rfl (by kernel_rfl)
            have h10 : D 18 = false := hD.post _ 18 rfl (by kernel_rfl)
            have HW := Lib.hid hW
            have H10 := Lib.hid h10
            have H12 := Lib.hid h12
            clear hW hD h10 h12
            go_wp2_with fail
            refine HRR.out _ _ ?_
            show TrW w [(w.heap.size, .cells #[.int .i64 m.rings, .int .i64 m.give, .int .i64 m.pl, .int .i64 m.ph, .int .i64 m.wl, .int .i64 m.wh, .int .i64 m.set, .int .i64 m.shrink, .int .i64 m.skin, .int .i64 m.fill, .int .i64 m.gap, .int .i64 m.deep] 25), (w.heap.size + 1, .cells #[.slice ya yn yc, .slice za zn zc, .slice yb yn2 yc2, .slice zb zn2 zc2] 73), (wT.heap.size, .cells #[.slice (some ⟨b1, o1, none⟩) r pc, .slice (some ⟨b2, o2, none⟩) N wc] 28), (wT.heap.size + 1, .cells #[.slice av1 r cv1, .slice a8 k c8] 28)] (fun v => [(w.heap.size, .cells #[.int .i64 m.rings, .int .i64 m.give, .int .i64 m.pl, .int .i64 m.ph, .int .i64 m.wl, .int .i64 m.wh, .int .i64 m.set, .int .i64 m.shrink, .int .i64 m.skin, .int .i64 m.fill, .int .i64 m.gap, .int .i64 m.deep] 25), (w.heap.size + 1, .cells #[.slice ya yn yc, .slice za zn zc, .slice yb yn2 yc2, .slice zb zn2 zc2] 73), (wT.heap.size, .cells #[.slice (some ⟨b1, o1, none⟩) r pc, .slice (some ⟨b2, o2, none⟩) N wc] 28), (wT.heap.size + 1, .cells #[.slice av1 r cv1, v] 28)]) W2 (W2.heap.size) (wT.heap.size + 1) k (.slice a8 k c8) ((mapTo (fun i => min m.wh ((truthWl m N zl).getD i 0 + turnV zl2 i)) k).map (Value.int .i64)) (.int .i64 (min m.wh (pk + tk))) true (D 18) (D 20) (.slice (some ⟨wz.heap.size, 0, none⟩) 1 1) (y 82) _
            exact (HW.out.next ((Below.refl _ _).alloc (Nat.le_refl _) _)).laid H10.out (heap_alloc_new _ _)
          apply obl_priv 82
          case hd => rfl
          case hp => rfl
          case hrun =>
            intro D y wz hW hD R hR
            have HRR := Lib.hid hR
            clear hR
            have h12 : D 20 = false := hD.post _ 20 rfl (by kernel_rfl)
            have h10 : D 18 = false := hD.not
            have h9 : D 17 = true := hD.pre _ 17 rfl (by kernel_rfl)
            obtain ⟨b9, e9, hb9⟩ := hW.src h9 h10
            have ho := hW.own h10
            have hs := hW.hs
            have HW := Lib.hid hW
            have H12 := Lib.hid h12
            have HB9 := Lib.hid hb9
            have E9 := Lib.hid e9
            clear hW hD h10 h12 h9 hb9 e9
            refine wpList_append_own _ rfl _ _ 26 rfl (W2.heap.size) 3 i0 (.int .i64 0) 1 8 Try.underlying26 hi0 hz0 hz1 hz2 rfl (by decide) _ _ _ rfl ho ⟨b9, 0, none⟩ 1 1 [.int .i64 (min m.wh (pk + tk))] E9.out rfl (cell_news _ _ _ _ HB9.out) (one_int _) (by unfold maxLen; omega) (by omega) hs ?_
            intro v' w12 hown12 hgrow12 _
            have hlt12 := World.ownsRow.lt ho
            have hb12 : Below (W2.heap.size) wz w12 := (Below.refl (W2.heap.size) wz).grown hgrow12 hs (fun k e => (hlt12 k e).1)
            have HN := Lib.hid (HW.out.got H12.out hb12 (by have := H5S.out; have := H2S.out; have := HWT.out; simp; omega) (by have := H5S.out; have := H2S.out; have := HWT.out; omega) hown12)
            clear hown12 hgrow12 hlt12 hb12 ho
            go_wp2
            refine HRR.out v' _ ?_
            exact HN.out
          apply obl_det
          case hrun =>
            intro D y wz hW hD R hR
            have HRR := Lib.hid hR
            clear hR
            have HW := Lib.hid hW
            clear hW hD
            go_wp2
            exact HRR.out _ HW.out
          case hnp => rfl
          case hv => first | exact ⟨_, fun _ => rfl⟩ | exact ⟨undef, fun _ => rfl⟩
          apply obl_det
          case hrun =>
            intro D y wz hW hD R hR
            have HRR := Lib.hid hR
            clear hR
            have HW := Lib.hid hW
            have h12 : D 20 = false := hD.not
            have h10 : D 18 = true := hD.pre _ 18 rfl (by kernel_rfl)
            have H10 := Lib.hid h10
            have H12 := Lib.hid h12
            have H1c : Hid ((y 82).oneCell' = true) := by obtain ⟨a, c, e⟩ := ownsRow_slice (hW.new h10); unfold Hid; rw [e]; rfl
            clear h10 h12
            clear hW hD
            refine wpList_cell_bz rfl 26 _ _ rfl (HW.out.bs1 H12.out) 3 (wT.heap.size + 1) 1 _ _ rfl rfl (y 82) rfl (by simp) H1c.out info26 ?_
            intro w13 hC13 hk13 hs13
            have HN := Lib.hid (HW.out.put H10.out H12.out (by have := H5S.out; have := H2S.out; omega) (by have := H5S.out; have := H2S.out; have := HWT.out; omega) hC13 hk13 hs13)
            clear hC13 hk13 hs13
            go_wp2
            exact HRR.out _ HN.out
          case hnp => rfl
          case hv => first | exact ⟨_, fun _ => rfl⟩ | exact ⟨undef, fun _ => rfl⟩
          apply obl_nil
          intro D y w8 hall hW
          have d9 := hall 17 (by decide)
          have d10 := hall 18 (by decide)
          have d12 := hall 20 (by decide)
          have HN := Lib.hid (hW.new d10)
          have HC8 := Lib.hid (hW.bs2 d12)
          have HKB := Lib.hid hW.kb
          have HS := Lib.hid hW.hs
          clear hW hall d9 d10 d12
          generalize y 82 = y' at *
          obtain ⟨a9, c9, rfl⟩ := ownsRow_slice1 HN.out
          clear CK OK
          go_wp2_with fail
          refine ⟨⟨k + 1, a9, c9, by push_cast; rfl, by omega, HC8.out, ?_, HKB.out, HS.out⟩, ?_⟩
          · rw [mapTo_succ, List.map_append, HPK.out, HTK.out]
            exact HN.out
          · simp [intOf]
            omega
        · obtain rfl : N = k := by omega

          have HTB : Hid (∀ b, b < wT.heap.size → wr.heap[b]? = wT.heap[b]?) := fun b hb => (HKB.out b (by have := H2S.out; have := H5S.out; omega) (by omega)).trans ((H2K.out b (by have := H5S.out; omega) (by omega)).trans (H5K.out b hb))
          have hTs : wT.heap.size ≤ wr.heap.size := by have := H2S.out; have := H5S.out; have := HS.out; omega
          have HA1 := Lib.hid (HT1.out.kb HTB.out hTs)
          have HA2 := Lib.hid (HT2.out.kb HTB.out hTs)
          have HA3 : Hid (IntsIn .i64 wr.heap.size wr (.slice av1 r cv1) (wideP m r yl yl2)) := (LV.ke HI1.out HKB.out HS.out).ints (mapTo_len _ _) (by omega)
          have HA4 : Hid (IntsIn .i64 wr.heap.size wr (.slice a8 N c8) (wideW m N zl zl2)) := OwnInts.ints (base := W2.heap.size) (by unfold OwnInts; rw [wideW, mapTo_len]; exact OK.out) (by rw [wideW, mapTo_len]; omega)
          have C9 := Lib.hid CK.out
          have c00 := C9.out.cell 0 rfl
          clear CK OK HKB HS HTB hTs H2K H2S H5K H5S HI1 HT1 HT2
          go_wp2_with (first | refine wpList_load_bs rfl 25 _ rfl C9.out 0 w.heap.size #[.int .i64 m.rings, .int .i64 m.give, .int .i64 m.pl, .int .i64 m.ph, .int .i64 m.wl, .int .i64 m.wh, .int .i64 m.set, .int .i64 m.shrink, .int .i64 m.skin, .int .i64 m.fill, .int .i64 m.gap, .int .i64 m.deep] 25 rfl rfl _ Try.underlying25 rfl info25 ?_ | refine wpList_load_bs rfl 28 _ rfl C9.out 2 (wT.heap.size) #[.slice (some ⟨b1, o1, none⟩) r pc, .slice wa N wc] 28 rfl rfl _ Try.underlying28 rfl info28 ?_)
          refine (HC1 _ HA1.out HA2.out).mono ?_
          rintro e w10 ⟨v10, rfl, ho, hb⟩
          have HLA := Lib.hid (ho.ints (by rw [HLNA.out]; omega))
          have C10 := Lib.hid (C9.out.call hb)
          have HA1 := Lib.hid (HA1.out.next hb)
          have HA2 := Lib.hid (HA2.out.next hb)
          have HA3 := Lib.hid (HA3.out.next hb)
          have HA4 := Lib.hid (HA4.out.next hb)
          clear hb ho C9 c00
          go_wp2_with (first | refine wpList_load_bs rfl 25 _ rfl C10.out 0 w.heap.size #[.int .i64 m.rings, .int .i64 m.give, .int .i64 m.pl, .int .i64 m.ph, .int .i64 m.wl, .int .i64 m.wh, .int .i64 m.set, .int .i64 m.shrink, .int .i64 m.skin, .int .i64 m.fill, .int .i64 m.gap, .int .i64 m.deep] 25 rfl rfl _ Try.underlying25 rfl info25 ?_ | refine wpList_load_bs rfl 28 _ rfl C10.out 3 (wT.heap.size + 1) #[.slice av1 r cv1, .slice a8 N c8] 28 rfl rfl _ Try.underlying28 rfl info28 ?_)
          refine (HC2 _ HA3.out HA4.out).mono ?_
          rintro e w16 ⟨v11, rfl, ho, hb⟩
          have HLB := Lib.hid (ho.ints (by rw [HLNB.out]; omega))
          have HLA := Lib.hid (HLA.out.next hb)
          have C16 := Lib.hid (C10.out.call hb)
          have HA1 := Lib.hid (HA1.out.next hb)
          have HA2 := Lib.hid (HA2.out.next hb)
          have HA3 := Lib.hid (HA3.out.next hb)
          have HA4 := Lib.hid (HA4.out.next hb)
          clear hb ho C10
          obtain ⟨aa, ca, ev, -⟩ := HLA.out
          rw [HLNA.out] at ev
          subst ev
          obtain ⟨ab, cb, ev, -⟩ := HLB.out
          rw [HLNB.out] at ev
          subst ev
          have c00 : w16.cell? ⟨w.heap.size, 0, none⟩ = some (.int .i64 r) := by
            rw [C16.out.cell 0 rfl, ← HRG.out]
            rfl
          have hqr : ((r : Int) != (r : Int)) = false := by simp
          go_wp2_with fail
          clear c00 hqr
          refine wp_region_inv1 (by kernel_rfl) (by kernel_rfl) [118, 121, 16, 17] (fun D y w' => WwW w16 wl1 wl2 (D 2) (D 5) (D 6) (D 7) (y 118) (y 121) (y 16) (y 17) w') (WwW.start _) ?FW ?hFW ?_
          case hFW =>
            intro y
            simp only [fill, List.foldl, Act.put, List.setIfInBounds_toArray, List.set]
            exact rfl
          apply obl_det
          case hrun =>
            intro D y wz hW hD R hR
            have HRR := Lib.hid hR
            clear hR
            have HW := Lib.hid hW
            clear hW hD
            refine wpList_load_want rfl 25 _ rfl _ rfl _ _ _ _ ((C16.out.call HW.out.bel).get 0 rfl) Try.underlying25 rfl info25 ?_
            go_simp
            exact HRR.out _ HW.out
          case hnp => rfl
          case hv => first | exact ⟨_, fun _ => rfl⟩ | exact ⟨undef, fun _ => rfl⟩
          apply obl_det
          case hrun =>
            intro D y wz hW hD R hR
            have HRR := Lib.hid hR
            clear hR
            have HW := Lib.hid hW
            clear hW hD
            refine wpList_load_want rfl 28 _ rfl _ rfl _ _ _ _ ((C16.out.call HW.out.bel).get 2 rfl) Try.underlying28 rfl info28 ?_
            go_simp
            exact HRR.out _ HW.out
          case hnp => rfl
          case hv => first | exact ⟨_, fun _ => rfl⟩ | exact ⟨undef, fun _ => rfl⟩
          apply obl_priv 118
          case hd => rfl
          case hp => rfl
          case hrun =>
            intro D y wz hW hD R hR
            have HRR := Lib.hid hR
            clear hR
            have h5 : D 6 = false := hD.post _ 6 rfl (by kernel_rfl)
            have HW := Lib.hid hW
            have H5 := Lib.hid h5
            clear hW hD h5
            go_wp2_with fail
            refine (HWH1 wz (HA1.out.next HW.out.bel) (HA2.out.next HW.out.bel)).mono ?_
            rintro e w' ⟨v, rfl, hi1, hb⟩
            have HN := Lib.hid ((HW.out.next hb).put1 H5.out hi1)
            clear hb hi1
            go_wp2_with fail
            refine HRR.out _ _ ?_
            show WwW w16 wl1 wl2 true (D 5) (D 6) (D 7) _ (y 121) (y 16) (y 17) _
            exact HN.out
          apply obl_det
          case hrun =>
            intro D y wz hW hD R hR
            have HRR := Lib.hid hR
            clear hR
            have HW := Lib.hid hW
            clear hW hD
            refine wpList_load_want rfl 25 _ rfl _ rfl _ _ _ _ ((C16.out.call HW.out.bel).get 0 rfl) Try.underlying25 rfl info25 ?_
            go_simp
            exact HRR.out _ HW.out
          case hnp => rfl
          case hv => first | exact ⟨_, fun _ => rfl⟩ | exact ⟨undef, fun _ => rfl⟩
          apply obl_det
          case hrun =>
            intro D y wz hW hD R hR
            have HRR := Lib.hid hR
            clear hR
            have HW := Lib.hid hW
            clear hW hD
            refine wpList_load_want rfl 28 _ rfl _ rfl _ _ _ _ ((C16.out.call HW.out.bel).get 3 rfl) Try.underlying28 rfl info28 ?_
            go_simp
            exact HRR.out _ HW.out
          case hnp => rfl
          case hv => first | exact ⟨_, fun _ => rfl⟩ | exact ⟨undef, fun _ => rfl⟩
          apply obl_priv 121
          case hd => rfl
          case hp => rfl
          case hrun =>
            intro D y wz hW hD R hR
            have HRR := Lib.hid hR
            clear hR
            have h5 : D 7 = false := hD.post _ 7 rfl (by kernel_rfl)
            have HW := Lib.hid hW
            have H5 := Lib.hid h5
            clear hW hD h5
            go_wp2_with fail
            refine (HWH2 wz (HA3.out.next HW.out.bel) (HA4.out.next HW.out.bel)).mono ?_
            rintro e w' ⟨v, rfl, hi1, hb⟩
            have HN := Lib.hid ((HW.out.next hb).put2 H5.out hi1)
            clear hb hi1
            go_wp2_with fail
            refine HRR.out _ _ ?_
            show WwW w16 wl1 wl2 (D 2) true (D 6) (D 7) (y 118) _ (y 16) (y 17) _
            exact HN.out
          apply obl_priv 16
          case hd => rfl
          case hp => rfl
          case hrun =>
            intro D y wz hW hD R hR
            have HRR := Lib.hid hR
            clear hR
            have HW := Lib.hid hW
            clear hW hD
            go_wp2
            refine HRR.out _ _ ?_
            show WwW w16 wl1 wl2 (D 2) (D 5) true (D 7) (y 118) (y 121) (y 118) (y 17) _
            exact HW.out.put3
          apply obl_priv 17
          case hd => rfl
          case hp => rfl
          case hrun =>
            intro D y wz hW hD R hR
            have HRR := Lib.hid hR
            clear hR
            have HW := Lib.hid hW
            clear hW hD
            go_wp2
            refine HRR.out _ _ ?_
            show WwW w16 wl1 wl2 (D 2) (D 5) (D 6) true (y 118) (y 121) (y 16) (y 121) _
            exact HW.out.put4
          apply obl_nil
          intro D y w17 hall hW
          have hn1 := hW.n1 (hall 2 (by decide))
          have ha1 := hW.a1 (hall 6 (by decide))
          have hn2 := hW.n2 (hall 5 (by decide))
          have ha2 := hW.a2 (hall 7 (by decide))
          have hbl := hW.bel
          clear hW hall
          rw [← ha1] at hn1
          rw [← ha2] at hn2
          clear ha1 ha2
          have HWA := Lib.hid hn1
          have HWB2 := Lib.hid hn2
          have HLA := Lib.hid (HLA.out.next hbl)
          have HLB := Lib.hid (HLB.out.next hbl)
          have C17 := Lib.hid (C16.out.call hbl)
          clear hn1 hn2 hbl C16 HA1 HA2 HA3 HA4
          generalize y 16 = v16 at *
          generalize y 17 = v17 at *
          generalize y 118 = g118 at *
          generalize y 121 = g121 at *
          obtain ⟨a16, c16, ev, -⟩ := HWA.out
          rw [HLN1.out] at ev
          subst ev
          obtain ⟨a17, c17, ev, -⟩ := HWB2.out
          rw [HLN2.out] at ev
          subst ev
          go_wp2_with fail
          go_loopw [18] (fun iv wr => ∃ i : Nat, iv = .int .i64 i ∧ i ≤ r ∧ Below w17.heap.size w17 wr) (fun iv _ => r - (intOf iv).toNat)
          case atStart => exact ⟨0, rfl, by omega, Below.refl _ _⟩
          case round =>
            obtain ⟨i, rfl, hi, hb⟩ := hrel
            have CB := Lib.hid hb
            have CI := Lib.hid (C17.out.call hb)
            have c00 : wr.cell? ⟨w.heap.size, 0, none⟩ = some (.int .i64 r) := by
              rw [CI.out.cell 0 rfl, ← HRG.out]
              rfl
            clear hb
            by_cases hir : i < r
            rotate_left
            · obtain rfl : r = i := by omega
              go_wp2_with fail
              refine (awake_any _).mono ?_
              rintro e w18 ⟨rfl, hb⟩
              have HBel := Lib.hid (CI.out.call hb).bel
              clear hb CI
              go_wp2
              go_ret
              exact ⟨rfl, HBel.out⟩
            have hii : (i : Int) < (r : Int) := by omega
            obtain ⟨_, _, hva, -, hcc⟩ := HLA.out
            simp only [Value.slice.injEq] at hva
            obtain ⟨rfl, -, rfl⟩ := hva
            obtain ⟨b21, o21, rfl, hbb21, hcell21⟩ := hcc.resolve_left (by intro h; have := HLNA.out; rw [h] at this; simp at this; omega)
            have k21 := (CB.out.cell (p := ⟨b21, o21 + i, none⟩) hbb21).trans (hcell21 i (by rw [HLNA.out]; exact hir))
            clear hcc hcell21
            obtain ⟨_, _, hva, -, hcc⟩ := HLB.out
            simp only [Value.slice.injEq] at hva
            obtain ⟨rfl, -, rfl⟩ := hva
            obtain ⟨b22, o22, rfl, hbb22, hcell22⟩ := hcc.resolve_left (by intro h; have := HLNB.out; rw [h] at this; simp at this; omega)
            have k22 := (CB.out.cell (p := ⟨b22, o22 + i, none⟩) hbb22).trans (hcell22 i (by rw [HLNB.out]; exact hir))
            clear hcc hcell22
            obtain ⟨_, _, hva, -, hcc⟩ := HWA.out
            simp only [Value.slice.injEq] at hva
            obtain ⟨rfl, -, rfl⟩ := hva
            obtain ⟨b23, o23, rfl, hbb23, hcell23⟩ := hcc.resolve_left (by intro h; have := HLN1.out; rw [h] at this; simp at this; omega)
            have k23 := (CB.out.cell (p := ⟨b23, o23 + i, none⟩) hbb23).trans (hcell23 i (by rw [HLN1.out]; exact hir))
            clear hcc hcell23
            obtain ⟨_, _, hva, -, hcc⟩ := HWB2.out
            simp only [Value.slice.injEq] at hva
            obtain ⟨rfl, -, rfl⟩ := hva
            obtain ⟨b24, o24, rfl, hbb24, hcell24⟩ := hcc.resolve_left (by intro h; have := HLN2.out; rw [h] at this; simp at this; omega)
            have k24 := (CB.out.cell (p := ⟨b24, o24 + i, none⟩) hbb24).trans (hcell24 i (by rw [HLN2.out]; exact hir))
            clear hcc hcell24

            have f1 := HCMP.out i hir
            have f2 := HNL.out i hir
            generalize la.getD i 0 = xa at *
            generalize lb.getD i 0 = xb at *
            generalize wl1.getD i 0 = xp at *
            generalize wl2.getD i 0 = xq at *
            have g1 : decide (xb < xa) = false := decide_eq_false (by omega)
            by_cases hp : xp < 0
            · have g2 : decide (xp < 0) = true := decide_eq_true hp
              have hq : ¬ (0 ≤ xq) := fun h => by have := f2.2 h; omega
              have g3 : decide (0 ≤ xq) = false := decide_eq_false hq
              clear f1 f2 hp hq
              go_wp2_with fail
              clear c00
              go_quiet (fail)
              simp only [Exit.then]
              go_wp2_with fail
              refine ⟨⟨i + 1, by push_cast; rfl, by omega, below_drewN CB.out _⟩, ?_⟩
              simp [intOf]
              omega
            · have g2 : decide (xp < 0) = false := decide_eq_false hp
              by_cases hq : 0 ≤ xq
              · have g3 : decide (0 ≤ xq) = true := decide_eq_true hq
                have g4 : decide (xq < xp) = false := decide_eq_false (by have := f2.2 hq; omega)
                clear f1 f2 hp hq
                go_wp2_with fail
                clear c00
                go_quiet (fail)
                simp only [Exit.then]
                go_wp2_with fail
                refine ⟨⟨i + 1, by push_cast; rfl, by omega, below_drewN CB.out _⟩, ?_⟩
                simp [intOf]
                omega
              · have g3 : decide (0 ≤ xq) = false := decide_eq_false hq
                clear f1 f2 hp hq
                go_wp2_with fail
                clear c00
                go_quiet (fail)
                simp only [Exit.then]
                go_wp2_with fail
                refine ⟨⟨i + 1, by push_cast; rfl, by omega, below_drewN CB.out _⟩, ?_⟩
                simp [intOf]
                omega

end Go.Proofs.Ytafdagjdpnaddaa
