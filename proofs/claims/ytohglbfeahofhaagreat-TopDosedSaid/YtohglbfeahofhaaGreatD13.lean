/- blend.sum of parts, whole. -/
import Derived.Deep.Cut
import Derived.Deep.CutBlock
import Derived.Test.YtohglbfeahofhaaGreatD12
namespace Go.Proofs.YtohglbfeahofhaaGreat
open Go.RowKit
def sumG (g : BWax → Int → Int) (ps : List (BWax × Int)) : Nat → Int
  | 0 => 0
  | k + 1 => sumG g ps k + g (ps.getD k default).1 (ps.getD k default).2
def GIn (g : BWax → Int → Int) (ps : List (BWax × Int)) : Prop := ∀ i, i < ps.length → -10000000 ≤ g (ps.getD i default).1 (ps.getD i default).2 ∧ g (ps.getD i default).1 (ps.getD i default).2 ≤ 10000000
theorem sumG_in {g : BWax → Int → Int} {ps : List (BWax × Int)} (h : GIn g ps) : ∀ k, k ≤ ps.length → -10000000 * (k : Int) ≤ sumG g ps k ∧ sumG g ps k ≤ 10000000 * (k : Int)
  | 0, _ => by simp [sumG]
  | k + 1, hk => by
    have h1 := sumG_in h k (by omega)
    have h2 := h k (by omega)
    have h3 : sumG g ps (k + 1) = sumG g ps k + g (ps.getD k default).1 (ps.getD k default).2 := rfl
    rw [h3]
    push_cast
    omega
/-- What a part must be. -/
structure PartOk (x : BWax) (n : Int) : Prop where
  n20 : 0 ≤ n ∧ n ≤ 20
  price : 0 ≤ x.price ∧ x.price ≤ 100000
  melt : 0 ≤ x.melt.1 ∧ x.melt.1 ≤ x.melt.2 ∧ x.melt.2 ≤ 2000
  shrink : 0 ≤ x.shrink.1 ∧ x.shrink.1 ≤ x.shrink.2 ∧ x.shrink.2 ≤ 1000
  curve : CurOk x.curve
  add : -100000 ≤ addV x.curve n ∧ addV x.curve n ≤ 100000
def PsOk (ps : List (BWax × Int)) : Prop := ∀ i, i < ps.length → PartOk (ps.getD i default).1 (ps.getD i default).2
theorem mul20 {n y : Int} {Y : Int} (hn : 0 ≤ n ∧ n ≤ 20) (hy : 0 ≤ y ∧ y ≤ Y) : 0 ≤ n * y ∧ n * y ≤ 20 * Y := by
  refine ⟨Int.mul_nonneg hn.1 hy.1, ?_⟩
  have h1 := Int.mul_le_mul_of_nonneg_right hn.2 hy.1
  omega
def gPrice (x : BWax) (n : Int) : Int := n * x.price
theorem gPrice_in {ps : List (BWax × Int)} (h : PsOk ps) : GIn gPrice ps := fun i hi => by
  have hp := h i hi
  have h2 := hp.price
  have h3 := mul20 (Y := 100000) hp.n20 (y := (ps.getD i default).1.price) (by omega)
  unfold gPrice
  omega
def gSoft (x : BWax) (n : Int) : Int := n * x.melt.1
theorem gSoft_in {ps : List (BWax × Int)} (h : PsOk ps) : GIn gSoft ps := fun i hi => by
  have hp := h i hi
  have h2 := hp.melt
  have h3 := mul20 (Y := 100000) hp.n20 (y := (ps.getD i default).1.melt.1) (by omega)
  unfold gSoft
  omega
def gHard (x : BWax) (n : Int) : Int := n * x.melt.2
theorem gHard_in {ps : List (BWax × Int)} (h : PsOk ps) : GIn gHard ps := fun i hi => by
  have hp := h i hi
  have h2 := hp.melt
  have h3 := mul20 (Y := 100000) hp.n20 (y := (ps.getD i default).1.melt.2) (by omega)
  unfold gHard
  omega
def gLeast (x : BWax) (n : Int) : Int := n * x.shrink.1
theorem gLeast_in {ps : List (BWax × Int)} (h : PsOk ps) : GIn gLeast ps := fun i hi => by
  have hp := h i hi
  have h2 := hp.shrink
  have h3 := mul20 (Y := 100000) hp.n20 (y := (ps.getD i default).1.shrink.1) (by omega)
  unfold gLeast
  omega
def gMost (x : BWax) (n : Int) : Int := n * x.shrink.2
theorem gMost_in {ps : List (BWax × Int)} (h : PsOk ps) : GIn gMost ps := fun i hi => by
  have hp := h i hi
  have h2 := hp.shrink
  have h3 := mul20 (Y := 100000) hp.n20 (y := (ps.getD i default).1.shrink.2) (by omega)
  unfold gMost
  omega
def gRaise (x : BWax) (n : Int) : Int := 20 * addV x.curve n
theorem gRaise_in {ps : List (BWax × Int)} (h : PsOk ps) : GIn gRaise ps := fun i hi => by
  have h3 := (h i hi).add
  unfold gRaise
  omega
set_option maxRecDepth 100000 in
set_option maxHeartbeats 16000000 in
theorem sumP_ok (g : BWax → Int → Int) (ps : List (BWax × Int)) (hg : GIn g ps) (h5 : ps.length ≤ 5) (bp : Nat) (v : Value) (w : World) (hv : PartsIn w.heap.size w v ps)
    (hf : ∀ i, i < ps.length → ∀ (ix : Int) u w', Below w.heap.size w w' → SpansIn w'.heap.size w' u (ps.getD i default).1.curve → Calls Tryz.prog 87 #[.int .i64 ix, .agg (partC (ps.getD i default).1 u (ps.getD i default).2), .pointer (some ⟨bp, 0, none⟩)] w' fun e w'' => e = .returned (.int .i64 (g (ps.getD i default).1 (ps.getD i default).2)) ∧ Below w'.heap.size w' w'') :
    Calls Tryz.prog 86 #[v, .func (.func 87) #[] #[.pointer (some ⟨bp, 0, none⟩)]] w fun e w' => e = .returned (.int .i64 (sumG g ps ps.length)) ∧ Below w.heap.size w w' := by
  obtain ⟨a, cap, rfl, hcap, -⟩ := sl_shape hv
  have HV := Lib.hid hv
  have HF := Lib.hid hf
  have HS := Lib.hid (sumG_in hg)
  have HG := Lib.hid hg
  clear hv hf hg
  have C0 : Hid (Bs w [] w) := Bs.nil w
  generalize hN : ps.length = N at *
  have HNN := Lib.hid hN
  clear hN
  go_enter Tryz.func86, Tryz.ntmps86
  go_wp2_with fail
  go_loopw [4, 9] (fun av iv wr => ∃ i : Nat, av = .int .i64 (sumG g ps i) ∧ iv = .int .i64 i ∧ i ≤ N ∧ Bs w [] wr) (fun _ iv _ => N - (intOf iv).toNat)
  case atStart => exact ⟨0, rfl, rfl, by omega, C0.out⟩
  case round =>
    clear C0
    obtain ⟨i, rfl, rfl, hi, hbs⟩ := hrel
    have CI := Lib.hid hbs
    clear hbs
    by_cases hil : i < N
    · have hii : (i : Int) < (N : Int) := by omega
      obtain ⟨b, o, he, hbl, u, hcu, hx⟩ : ∃ b o, a = some ⟨b, o, none⟩ ∧ b < w.heap.size ∧ ∃ u, SpansIn w.heap.size w u (ps.getD i default).1.curve ∧ ∀ j, j < 8 → w.cell? ⟨b, o + i * 8 + j, none⟩ = (partC (ps.getD i default).1 u (ps.getD i default).2)[j]? := HV.out.at' (i := i) (by rw [HNN.out]; exact hil)
      cases he
      obtain ⟨ca, cq, rfl, -, -⟩ := sl_shape hcu
      have HFI := Lib.hid (HF.out i hil)
      have HCU := Lib.hid hcu
      have HN1 : Hid (sumG g ps (i + 1) = sumG g ps i + g (ps.getD i default).1 (ps.getD i default).2) := rfl
      have hs1 := HS.out i (by omega)
      have hs2 := HG.out i (by rw [HNN.out]; exact hil)
      have hy0 : wr.cell? ⟨b, o + i * 8, none⟩ = _ := (CI.out.bel.cell (p := ⟨b, _, none⟩) hbl).trans (hx 0 (by decide))
      have hy1 : wr.cell? ⟨b, o + i * 8 + 1, none⟩ = _ := (CI.out.bel.cell (p := ⟨b, _, none⟩) hbl).trans (hx 1 (by decide))
      have hy2 : wr.cell? ⟨b, o + i * 8 + 2, none⟩ = _ := (CI.out.bel.cell (p := ⟨b, _, none⟩) hbl).trans (hx 2 (by decide))
      have hy3 : wr.cell? ⟨b, o + i * 8 + 3, none⟩ = _ := (CI.out.bel.cell (p := ⟨b, _, none⟩) hbl).trans (hx 3 (by decide))
      have hy4 : wr.cell? ⟨b, o + i * 8 + 4, none⟩ = _ := (CI.out.bel.cell (p := ⟨b, _, none⟩) hbl).trans (hx 4 (by decide))
      have hy5 : wr.cell? ⟨b, o + i * 8 + 5, none⟩ = _ := (CI.out.bel.cell (p := ⟨b, _, none⟩) hbl).trans (hx 5 (by decide))
      have hy6 : wr.cell? ⟨b, o + i * 8 + 6, none⟩ = _ := (CI.out.bel.cell (p := ⟨b, _, none⟩) hbl).trans (hx 6 (by decide))
      have hy7 : wr.cell? ⟨b, o + i * 8 + 7, none⟩ = _ := (CI.out.bel.cell (p := ⟨b, _, none⟩) hbl).trans (hx 7 (by decide))
      clear hx hbl hcu
      generalize hgx : g (ps.getD i default).1 (ps.getD i default).2 = gx at *
      generalize sumG g ps i = S at *
      generalize ps.getD i default = p at *
      obtain ⟨x, n⟩ := p
      simp only at HFI HCU hy0 hy1 hy2 hy3 hy4 hy5 hy6 hy7
      clear hgx
      have hw1 : wrap64 (S + gx) = S + gx := wrapU (by omega)
      have HWR := Lib.hid hw1
      clear hw1 hs1 hs2
      have CP := Lib.hid (CI.out.push _ rfl (.cells #[.string ByteArray.empty, .int .i64 0, .int .i64 0, .int .i64 0, .int .i64 0, .int .i64 0, .slice none 0 0, .int .i64 0] 119))
      go_wp2_with (first | (refine wpList_store_bs rfl 119 _ _ rfl CP.out 0 _ _ _ _ rfl rfl rfl infoPart rfl (by simp [Value.oneCell']) ?_; intro w5 hC; have C5 : Hid (Bs w [(wr.heap.size, .cells (partC x (.slice ca x.curve.length cq) n) 119)] w5) := hC; clear hC CP CI hy0 hy1 hy2 hy3 hy4 hy5 hy6 hy7) | (refine wpList_load_row rfl 119 _ rfl _ rfl _ _ _ _ (C5.out.get 0 rfl) Tryz.underlying119 rfl infoPart ?_))
      refine (HFI.out _ _ _ C5.out.bel ((HCU.out.below C5.out.bel).mono C5.out.bel.size)).mono ?_
      rintro e w6 ⟨rfl, hb⟩
      have C6 := Lib.hid (C5.out.call hb)
      clear hb C5
      go_wp2_with fail
      refine ⟨⟨i + 1, by rw [HN1.out, HWR.out], by push_cast; rfl, by omega, C6.out.sub [] (by simp)⟩, ?_⟩
      simp [intOf]; omega
    · obtain rfl : i = N := by omega
      go_wp2_with fail
      go_ret
      exact ⟨rfl, CI.out.bel⟩
set_option maxHeartbeats 4000000 in
theorem w1_price (x : BWax) (n : Int) (ho : PartOk x n) (ix : Int) (u : Value) (bp : Nat) (w : World) (hbl : bp < w.heap.size) (hb : w.heap[bp]? = some (.cells #[.func (.func 47) #[] #[]] 117)) (hu : SpansIn w.heap.size w u x.curve) :
    Calls Tryz.prog 87 #[.int .i64 ix, .agg (partC x u n), .pointer (some ⟨bp, 0, none⟩)] w fun e w' => e = .returned (.int .i64 (gPrice x n)) ∧ Below w.heap.size w w' := by
  have HO := Lib.hid ho
  have HU := Lib.hid hu
  have HR : Hid (gPrice x n = n * x.price) := rfl
  generalize gPrice x n = R at *
  have C0 : Hid (Bs w [(w.heap.size, .cells (partC x u n) 119)] _) := Lib.hid ((Bs.nil w).push _ rfl (.cells (partC x u n) 119))
  have hc := (C0.out.bel.cell (p := ⟨bp, 0, none⟩) hbl).trans (cell_of_row _ _ 0 _ _ _ hb)
  clear hb ho hu
  go_enter Tryz.func87, Tryz.ntmps87
  go_wp2_with (refine wpList_load_row rfl 119 _ rfl _ rfl _ _ _ _ (C0.out.get 0 rfl) Tryz.underlying119 rfl infoPart ?_)
  refine (price_ok x u n HO.out.n20 (by have := HO.out.price; omega) _).mono ?_
  rintro e w3 ⟨rfl, hb⟩
  have C1 := Lib.hid (C0.out.call hb)
  clear hb C0 hc
  go_wp2_with fail
  go_ret
  exact ⟨ret_int HR.out.symm, C1.out.bel⟩
set_option maxHeartbeats 4000000 in
theorem whole_price (ps : List (BWax × Int)) (hp : PsOk ps) (h5 : ps.length ≤ 5) (v : Value) (w : World) (hv : PartsIn w.heap.size w v ps) :
    Calls Tryz.prog 46 #[v, .func (.func 47) #[] #[]] w fun e w' => e = .returned (.int .i64 (sumG gPrice ps ps.length)) ∧ Below w.heap.size w w' := by
  have HV := Lib.hid hv
  have HP := Lib.hid hp
  obtain ⟨a, cap, rfl, -, -⟩ := sl_shape hv
  have C0 : Hid (Bs w [(w.heap.size, .cells #[.func (.func 47) #[] #[]] 117)] _) := Lib.hid ((Bs.nil w).push _ rfl (.cells #[.func (.func 47) #[] #[]] 117))
  have HSM := fun v w2 h1 h2 => Lib.hid (sumP_ok gPrice ps (gPrice_in hp) h5 w.heap.size v w2 h1 h2)
  clear hv hp
  generalize hN : ps.length = N at *
  have HNN := Lib.hid hN
  clear hN
  go_enter Tryz.func46, Tryz.ntmps46
  go_wp2_with fail
  refine (HSM _ _ ((HV.out.below C0.out.bel).mono C0.out.bel.size) (fun i hi ix u w' hw hu => ?_)).out.mono ?_
  · have hb := block_keep (C0.out.get 0 rfl) hw
    exact w1_price _ _ (HP.out i (by rw [HNN.out]; exact hi)) ix u _ w' (block_lt hb) hb hu
  rintro e w1 ⟨rfl, hb⟩
  have C1 := Lib.hid (C0.out.call hb)
  clear hb C0
  go_wp2_with fail
  go_ret
  exact ⟨rfl, C1.out.bel⟩
set_option maxHeartbeats 4000000 in
theorem w1_softest (x : BWax) (n : Int) (ho : PartOk x n) (ix : Int) (u : Value) (bp : Nat) (w : World) (hbl : bp < w.heap.size) (hb : w.heap[bp]? = some (.cells #[.func (.func 82) #[] #[]] 117)) (hu : SpansIn w.heap.size w u x.curve) :
    Calls Tryz.prog 87 #[.int .i64 ix, .agg (partC x u n), .pointer (some ⟨bp, 0, none⟩)] w fun e w' => e = .returned (.int .i64 (gSoft x n)) ∧ Below w.heap.size w w' := by
  have HO := Lib.hid ho
  have HU := Lib.hid hu
  have HR : Hid (gSoft x n = n * x.melt.1) := rfl
  generalize gSoft x n = R at *
  have C0 : Hid (Bs w [(w.heap.size, .cells (partC x u n) 119)] _) := Lib.hid ((Bs.nil w).push _ rfl (.cells (partC x u n) 119))
  have hc := (C0.out.bel.cell (p := ⟨bp, 0, none⟩) hbl).trans (cell_of_row _ _ 0 _ _ _ hb)
  clear hb ho hu
  go_enter Tryz.func87, Tryz.ntmps87
  go_wp2_with (refine wpList_load_row rfl 119 _ rfl _ rfl _ _ _ _ (C0.out.get 0 rfl) Tryz.underlying119 rfl infoPart ?_)
  refine (softest_ok x u n HO.out.n20 (by have := HO.out.melt; omega) _).mono ?_
  rintro e w3 ⟨rfl, hb⟩
  have C1 := Lib.hid (C0.out.call hb)
  clear hb C0 hc
  go_wp2_with fail
  go_ret
  exact ⟨ret_int HR.out.symm, C1.out.bel⟩
set_option maxHeartbeats 4000000 in
theorem whole_softest (ps : List (BWax × Int)) (hp : PsOk ps) (h5 : ps.length ≤ 5) (v : Value) (w : World) (hv : PartsIn w.heap.size w v ps) :
    Calls Tryz.prog 46 #[v, .func (.func 82) #[] #[]] w fun e w' => e = .returned (.int .i64 (sumG gSoft ps ps.length)) ∧ Below w.heap.size w w' := by
  have HV := Lib.hid hv
  have HP := Lib.hid hp
  obtain ⟨a, cap, rfl, -, -⟩ := sl_shape hv
  have C0 : Hid (Bs w [(w.heap.size, .cells #[.func (.func 82) #[] #[]] 117)] _) := Lib.hid ((Bs.nil w).push _ rfl (.cells #[.func (.func 82) #[] #[]] 117))
  have HSM := fun v w2 h1 h2 => Lib.hid (sumP_ok gSoft ps (gSoft_in hp) h5 w.heap.size v w2 h1 h2)
  clear hv hp
  generalize hN : ps.length = N at *
  have HNN := Lib.hid hN
  clear hN
  go_enter Tryz.func46, Tryz.ntmps46
  go_wp2_with fail
  refine (HSM _ _ ((HV.out.below C0.out.bel).mono C0.out.bel.size) (fun i hi ix u w' hw hu => ?_)).out.mono ?_
  · have hb := block_keep (C0.out.get 0 rfl) hw
    exact w1_softest _ _ (HP.out i (by rw [HNN.out]; exact hi)) ix u _ w' (block_lt hb) hb hu
  rintro e w1 ⟨rfl, hb⟩
  have C1 := Lib.hid (C0.out.call hb)
  clear hb C0
  go_wp2_with fail
  go_ret
  exact ⟨rfl, C1.out.bel⟩
set_option maxHeartbeats 4000000 in
theorem w1_hardest (x : BWax) (n : Int) (ho : PartOk x n) (ix : Int) (u : Value) (bp : Nat) (w : World) (hbl : bp < w.heap.size) (hb : w.heap[bp]? = some (.cells #[.func (.func 83) #[] #[]] 117)) (hu : SpansIn w.heap.size w u x.curve) :
    Calls Tryz.prog 87 #[.int .i64 ix, .agg (partC x u n), .pointer (some ⟨bp, 0, none⟩)] w fun e w' => e = .returned (.int .i64 (gHard x n)) ∧ Below w.heap.size w w' := by
  have HO := Lib.hid ho
  have HU := Lib.hid hu
  have HR : Hid (gHard x n = n * x.melt.2) := rfl
  generalize gHard x n = R at *
  have C0 : Hid (Bs w [(w.heap.size, .cells (partC x u n) 119)] _) := Lib.hid ((Bs.nil w).push _ rfl (.cells (partC x u n) 119))
  have hc := (C0.out.bel.cell (p := ⟨bp, 0, none⟩) hbl).trans (cell_of_row _ _ 0 _ _ _ hb)
  clear hb ho hu
  go_enter Tryz.func87, Tryz.ntmps87
  go_wp2_with (refine wpList_load_row rfl 119 _ rfl _ rfl _ _ _ _ (C0.out.get 0 rfl) Tryz.underlying119 rfl infoPart ?_)
  refine (hardest_ok x u n HO.out.n20 (by have := HO.out.melt; omega) _).mono ?_
  rintro e w3 ⟨rfl, hb⟩
  have C1 := Lib.hid (C0.out.call hb)
  clear hb C0 hc
  go_wp2_with fail
  go_ret
  exact ⟨ret_int HR.out.symm, C1.out.bel⟩
set_option maxHeartbeats 4000000 in
theorem whole_hardest (ps : List (BWax × Int)) (hp : PsOk ps) (h5 : ps.length ≤ 5) (v : Value) (w : World) (hv : PartsIn w.heap.size w v ps) :
    Calls Tryz.prog 46 #[v, .func (.func 83) #[] #[]] w fun e w' => e = .returned (.int .i64 (sumG gHard ps ps.length)) ∧ Below w.heap.size w w' := by
  have HV := Lib.hid hv
  have HP := Lib.hid hp
  obtain ⟨a, cap, rfl, -, -⟩ := sl_shape hv
  have C0 : Hid (Bs w [(w.heap.size, .cells #[.func (.func 83) #[] #[]] 117)] _) := Lib.hid ((Bs.nil w).push _ rfl (.cells #[.func (.func 83) #[] #[]] 117))
  have HSM := fun v w2 h1 h2 => Lib.hid (sumP_ok gHard ps (gHard_in hp) h5 w.heap.size v w2 h1 h2)
  clear hv hp
  generalize hN : ps.length = N at *
  have HNN := Lib.hid hN
  clear hN
  go_enter Tryz.func46, Tryz.ntmps46
  go_wp2_with fail
  refine (HSM _ _ ((HV.out.below C0.out.bel).mono C0.out.bel.size) (fun i hi ix u w' hw hu => ?_)).out.mono ?_
  · have hb := block_keep (C0.out.get 0 rfl) hw
    exact w1_hardest _ _ (HP.out i (by rw [HNN.out]; exact hi)) ix u _ w' (block_lt hb) hb hu
  rintro e w1 ⟨rfl, hb⟩
  have C1 := Lib.hid (C0.out.call hb)
  clear hb C0
  go_wp2_with fail
  go_ret
  exact ⟨rfl, C1.out.bel⟩
set_option maxHeartbeats 4000000 in
theorem w1_least (x : BWax) (n : Int) (ho : PartOk x n) (ix : Int) (u : Value) (bp : Nat) (w : World) (hbl : bp < w.heap.size) (hb : w.heap[bp]? = some (.cells #[.func (.func 84) #[] #[]] 117)) (hu : SpansIn w.heap.size w u x.curve) :
    Calls Tryz.prog 87 #[.int .i64 ix, .agg (partC x u n), .pointer (some ⟨bp, 0, none⟩)] w fun e w' => e = .returned (.int .i64 (gLeast x n)) ∧ Below w.heap.size w w' := by
  have HO := Lib.hid ho
  have HU := Lib.hid hu
  have HR : Hid (gLeast x n = n * x.shrink.1) := rfl
  generalize gLeast x n = R at *
  have C0 : Hid (Bs w [(w.heap.size, .cells (partC x u n) 119)] _) := Lib.hid ((Bs.nil w).push _ rfl (.cells (partC x u n) 119))
  have hc := (C0.out.bel.cell (p := ⟨bp, 0, none⟩) hbl).trans (cell_of_row _ _ 0 _ _ _ hb)
  clear hb ho hu
  go_enter Tryz.func87, Tryz.ntmps87
  go_wp2_with (refine wpList_load_row rfl 119 _ rfl _ rfl _ _ _ _ (C0.out.get 0 rfl) Tryz.underlying119 rfl infoPart ?_)
  refine (least_ok x u n HO.out.n20 (by have := HO.out.shrink; omega) _).mono ?_
  rintro e w3 ⟨rfl, hb⟩
  have C1 := Lib.hid (C0.out.call hb)
  clear hb C0 hc
  go_wp2_with fail
  go_ret
  exact ⟨ret_int HR.out.symm, C1.out.bel⟩
set_option maxHeartbeats 4000000 in
theorem whole_least (ps : List (BWax × Int)) (hp : PsOk ps) (h5 : ps.length ≤ 5) (v : Value) (w : World) (hv : PartsIn w.heap.size w v ps) :
    Calls Tryz.prog 46 #[v, .func (.func 84) #[] #[]] w fun e w' => e = .returned (.int .i64 (sumG gLeast ps ps.length)) ∧ Below w.heap.size w w' := by
  have HV := Lib.hid hv
  have HP := Lib.hid hp
  obtain ⟨a, cap, rfl, -, -⟩ := sl_shape hv
  have C0 : Hid (Bs w [(w.heap.size, .cells #[.func (.func 84) #[] #[]] 117)] _) := Lib.hid ((Bs.nil w).push _ rfl (.cells #[.func (.func 84) #[] #[]] 117))
  have HSM := fun v w2 h1 h2 => Lib.hid (sumP_ok gLeast ps (gLeast_in hp) h5 w.heap.size v w2 h1 h2)
  clear hv hp
  generalize hN : ps.length = N at *
  have HNN := Lib.hid hN
  clear hN
  go_enter Tryz.func46, Tryz.ntmps46
  go_wp2_with fail
  refine (HSM _ _ ((HV.out.below C0.out.bel).mono C0.out.bel.size) (fun i hi ix u w' hw hu => ?_)).out.mono ?_
  · have hb := block_keep (C0.out.get 0 rfl) hw
    exact w1_least _ _ (HP.out i (by rw [HNN.out]; exact hi)) ix u _ w' (block_lt hb) hb hu
  rintro e w1 ⟨rfl, hb⟩
  have C1 := Lib.hid (C0.out.call hb)
  clear hb C0
  go_wp2_with fail
  go_ret
  exact ⟨rfl, C1.out.bel⟩
set_option maxHeartbeats 4000000 in
theorem w1_most (x : BWax) (n : Int) (ho : PartOk x n) (ix : Int) (u : Value) (bp : Nat) (w : World) (hbl : bp < w.heap.size) (hb : w.heap[bp]? = some (.cells #[.func (.func 85) #[] #[]] 117)) (hu : SpansIn w.heap.size w u x.curve) :
    Calls Tryz.prog 87 #[.int .i64 ix, .agg (partC x u n), .pointer (some ⟨bp, 0, none⟩)] w fun e w' => e = .returned (.int .i64 (gMost x n)) ∧ Below w.heap.size w w' := by
  have HO := Lib.hid ho
  have HU := Lib.hid hu
  have HR : Hid (gMost x n = n * x.shrink.2) := rfl
  generalize gMost x n = R at *
  have C0 : Hid (Bs w [(w.heap.size, .cells (partC x u n) 119)] _) := Lib.hid ((Bs.nil w).push _ rfl (.cells (partC x u n) 119))
  have hc := (C0.out.bel.cell (p := ⟨bp, 0, none⟩) hbl).trans (cell_of_row _ _ 0 _ _ _ hb)
  clear hb ho hu
  go_enter Tryz.func87, Tryz.ntmps87
  go_wp2_with (refine wpList_load_row rfl 119 _ rfl _ rfl _ _ _ _ (C0.out.get 0 rfl) Tryz.underlying119 rfl infoPart ?_)
  refine (most_ok x u n HO.out.n20 (by have := HO.out.shrink; omega) _).mono ?_
  rintro e w3 ⟨rfl, hb⟩
  have C1 := Lib.hid (C0.out.call hb)
  clear hb C0 hc
  go_wp2_with fail
  go_ret
  exact ⟨ret_int HR.out.symm, C1.out.bel⟩
set_option maxHeartbeats 4000000 in
theorem whole_most (ps : List (BWax × Int)) (hp : PsOk ps) (h5 : ps.length ≤ 5) (v : Value) (w : World) (hv : PartsIn w.heap.size w v ps) :
    Calls Tryz.prog 46 #[v, .func (.func 85) #[] #[]] w fun e w' => e = .returned (.int .i64 (sumG gMost ps ps.length)) ∧ Below w.heap.size w w' := by
  have HV := Lib.hid hv
  have HP := Lib.hid hp
  obtain ⟨a, cap, rfl, -, -⟩ := sl_shape hv
  have C0 : Hid (Bs w [(w.heap.size, .cells #[.func (.func 85) #[] #[]] 117)] _) := Lib.hid ((Bs.nil w).push _ rfl (.cells #[.func (.func 85) #[] #[]] 117))
  have HSM := fun v w2 h1 h2 => Lib.hid (sumP_ok gMost ps (gMost_in hp) h5 w.heap.size v w2 h1 h2)
  clear hv hp
  generalize hN : ps.length = N at *
  have HNN := Lib.hid hN
  clear hN
  go_enter Tryz.func46, Tryz.ntmps46
  go_wp2_with fail
  refine (HSM _ _ ((HV.out.below C0.out.bel).mono C0.out.bel.size) (fun i hi ix u w' hw hu => ?_)).out.mono ?_
  · have hb := block_keep (C0.out.get 0 rfl) hw
    exact w1_most _ _ (HP.out i (by rw [HNN.out]; exact hi)) ix u _ w' (block_lt hb) hb hu
  rintro e w1 ⟨rfl, hb⟩
  have C1 := Lib.hid (C0.out.call hb)
  clear hb C0
  go_wp2_with fail
  go_ret
  exact ⟨rfl, C1.out.bel⟩
set_option maxHeartbeats 4000000 in
theorem w1_raise (x : BWax) (n : Int) (ho : PartOk x n) (ix : Int) (u : Value) (bp : Nat) (w : World) (hbl : bp < w.heap.size) (hb : w.heap[bp]? = some (.cells #[.func (.func 48) #[] #[]] 117)) (hu : SpansIn w.heap.size w u x.curve) :
    Calls Tryz.prog 87 #[.int .i64 ix, .agg (partC x u n), .pointer (some ⟨bp, 0, none⟩)] w fun e w' => e = .returned (.int .i64 (gRaise x n)) ∧ Below w.heap.size w w' := by
  have HO := Lib.hid ho
  have HU := Lib.hid hu
  have HR : Hid (gRaise x n = 20 * addV x.curve n) := rfl
  generalize gRaise x n = R at *
  have C0 : Hid (Bs w [(w.heap.size, .cells (partC x u n) 119)] _) := Lib.hid ((Bs.nil w).push _ rfl (.cells (partC x u n) 119))
  have hc := (C0.out.bel.cell (p := ⟨bp, 0, none⟩) hbl).trans (cell_of_row _ _ 0 _ _ _ hb)
  clear hb ho hu
  go_enter Tryz.func87, Tryz.ntmps87
  go_wp2_with (refine wpList_load_row rfl 119 _ rfl _ rfl _ _ _ _ (C0.out.get 0 rfl) Tryz.underlying119 rfl infoPart ?_)
  refine (raiseP_ok x HO.out.curve u n HO.out.n20 HO.out.add _ ((HU.out.below C0.out.bel).mono C0.out.bel.size)).mono ?_
  rintro e w3 ⟨rfl, hb⟩
  have C1 := Lib.hid (C0.out.call hb)
  clear hb C0 hc
  go_wp2_with fail
  go_ret
  exact ⟨ret_int HR.out.symm, C1.out.bel⟩
set_option maxHeartbeats 4000000 in
theorem whole_raise (ps : List (BWax × Int)) (hp : PsOk ps) (h5 : ps.length ≤ 5) (v : Value) (w : World) (hv : PartsIn w.heap.size w v ps) :
    Calls Tryz.prog 46 #[v, .func (.func 48) #[] #[]] w fun e w' => e = .returned (.int .i64 (sumG gRaise ps ps.length)) ∧ Below w.heap.size w w' := by
  have HV := Lib.hid hv
  have HP := Lib.hid hp
  obtain ⟨a, cap, rfl, -, -⟩ := sl_shape hv
  have C0 : Hid (Bs w [(w.heap.size, .cells #[.func (.func 48) #[] #[]] 117)] _) := Lib.hid ((Bs.nil w).push _ rfl (.cells #[.func (.func 48) #[] #[]] 117))
  have HSM := fun v w2 h1 h2 => Lib.hid (sumP_ok gRaise ps (gRaise_in hp) h5 w.heap.size v w2 h1 h2)
  clear hv hp
  generalize hN : ps.length = N at *
  have HNN := Lib.hid hN
  clear hN
  go_enter Tryz.func46, Tryz.ntmps46
  go_wp2_with fail
  refine (HSM _ _ ((HV.out.below C0.out.bel).mono C0.out.bel.size) (fun i hi ix u w' hw hu => ?_)).out.mono ?_
  · have hb := block_keep (C0.out.get 0 rfl) hw
    exact w1_raise _ _ (HP.out i (by rw [HNN.out]; exact hi)) ix u _ w' (block_lt hb) hb hu
  rintro e w1 ⟨rfl, hb⟩
  have C1 := Lib.hid (C0.out.call hb)
  clear hb C0
  go_wp2_with fail
  go_ret
  exact ⟨rfl, C1.out.bel⟩
end Go.Proofs.YtohglbfeahofhaaGreat
