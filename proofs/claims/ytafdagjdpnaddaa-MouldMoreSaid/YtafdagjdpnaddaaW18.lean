/- mould.end: how deep the hollow is in the end, and what toppings pour. -/
import Derived.Test.YtafdagjdpnaddaaW17
import Derived.Lib.MinMax
import Derived.Laws.ResultCell
import Derived.Test.YtafdagjdpnaddaaW7
namespace Go.Proofs.Ytafdagjdpnaddaa
open Go.RowKit
/-- Which of the rings have shrunk: the first k up to t, the others up to T. -/
def doneTo (when : List Int) (T t : Int) (k : Nat) : List Value := (List.range when.length).map fun i => .bool (decide (when.getD i 0 ≤ if i < k then t else T))
theorem doneTo_len (when : List Int) (T t : Int) (k : Nat) : (doneTo when T t k).length = when.length := by simp [doneTo]
theorem doneTo_at (when : List Int) (T t : Int) (k i : Nat) (h : i < when.length) : (doneTo when T t k)[i]? = some (.bool (decide (when.getD i 0 ≤ if i < k then t else T))) := by simp [doneTo, h]
theorem doneTo_start (when : List Int) {T t T' t' : Int} {k : Nat} (hk : when.length ≤ k) (h : t' = T) : doneTo when T t 0 = doneTo when T' t' k := by
  apply List.ext_getElem?
  intro i
  by_cases hi : i < when.length
  · rw [doneTo_at _ _ _ _ _ hi, doneTo_at _ _ _ _ _ hi, if_neg (by omega), if_pos (by omega), h]
  · rw [List.getElem?_eq_none (by rw [doneTo_len]; omega), List.getElem?_eq_none (by rw [doneTo_len]; omega)]
theorem doneTo_stay (when : List Int) {T t : Int} {k : Nat} (h : decide (when.getD k 0 ≤ t) = decide (when.getD k 0 ≤ T)) : doneTo when T t k = doneTo when T t (k + 1) := by
  apply List.ext_getElem?
  intro i
  by_cases hi : i < when.length
  · rw [doneTo_at _ _ _ _ _ hi, doneTo_at _ _ _ _ _ hi]
    by_cases hik : i = k
    · subst hik
      rw [if_neg (by omega), if_pos (by omega), h]
    · congr 3
      by_cases hl : i < k
      · rw [if_pos hl, if_pos (by omega)]
      · rw [if_neg hl, if_neg (by omega)]
  · rw [List.getElem?_eq_none (by rw [doneTo_len]; omega), List.getElem?_eq_none (by rw [doneTo_len]; omega)]
theorem doneTo_set (when : List Int) {T t : Int} {k : Nat} (hk : k < when.length) (h : when.getD k 0 ≤ t) : (doneTo when T t k).toArray.setIfInBounds k (.bool true) = (doneTo when T t (k + 1)).toArray := by
  rw [List.setIfInBounds_toArray]
  congr 1
  apply List.ext_getElem?
  intro i
  by_cases hik : i = k
  · subst hik
    rw [List.getElem?_set_self (by rw [doneTo_len]; exact hk), doneTo_at _ _ _ _ _ hk, if_pos (by omega), decide_eq_true h]
  · rw [List.getElem?_set_ne (Ne.symm hik)]
    by_cases hi : i < when.length
    · rw [doneTo_at _ _ _ _ _ hi, doneTo_at _ _ _ _ _ hi]
      congr 3
      by_cases hl : i < k
      · rw [if_pos hl, if_pos (by omega)]
      · rw [if_neg hl, if_neg (by omega)]
    · rw [List.getElem?_eq_none (by rw [doneTo_len]; omega), List.getElem?_eq_none (by rw [doneTo_len]; omega)]
theorem doneTo_none (when : List Int) (h : ∀ i, i < when.length → 0 ≤ when.getD i 0) (t : Int) : List.replicate when.length (Value.bool false) = doneTo when (-1) t 0 := by
  apply List.ext_getElem?
  intro i
  by_cases hi : i < when.length
  · rw [doneTo_at _ _ _ _ _ hi, if_neg (by omega), List.getElem?_replicate, if_pos hi, decide_eq_false (by have := h i hi; omega)]
  · rw [List.getElem?_eq_none (by simp; omega), List.getElem?_eq_none (by rw [doneTo_len]; omega)]
theorem shrI_prog (m : Mou) (k : Nat) : m.shrink * (2 * (m.rings - (k : Int)) - 1) = shrI m k := by
  unfold shrI
  congr 1
  omega
theorem fallTo_none {m : Mou} {when : List Int} {t : Int} (h : ∀ i, i < when.length → t < when.getD i 0) : ∀ k, k ≤ when.length → fallTo m when t k = 0
  | 0, _ => rfl
  | k + 1, hk => by
    simp only [fallTo]
    rw [fallTo_none h k (by omega), if_neg (by have := h k (by omega); simp only [skinB, Bool.and_eq_true, decide_eq_true_eq]; omega)]
    rfl
theorem Bs.snoc {w wr : World} {l : List (Nat × Obj)} (h : Bs w l wr) {g : Nat} {o : Obj} (hg : wr.heap[g]? = some o) (hlt : ∀ p ∈ l, p.1 < g) (hge : w.heap.size ≤ g) : Bs w (l ++ [(g, o)]) wr := by
  refine ⟨?_, ?_, ?_, h.bel⟩
  · intro p hp
    rcases List.mem_append.1 hp with hp | hp
    · exact h.get' p hp
    · simp only [List.mem_singleton] at hp
      subst hp
      exact hg
  · rw [List.map_append, List.pairwise_append]
    refine ⟨h.inc, by simp, ?_⟩
    intro a ha b hb
    simp only [List.mem_map] at ha hb
    obtain ⟨p, hp, rfl⟩ := ha
    obtain ⟨q, hq, rfl⟩ := hb
    simp only [List.mem_singleton] at hq
    subst hq
    exact hlt p hp
  · intro p hp
    rcases List.mem_append.1 hp with hp | hp
    · exact h.ge p hp
    · simp only [List.mem_singleton] at hp
      subst hp
      exact hge
/-- What the blocks of an end hold. -/
abbrev endBs (m : Mou) (v1 v2 vw : Value) (b3 b4 b6 g b8 n : Nat) (done : List Value) (h : Int) : List (Nat × Obj) :=
  [(b3, .cells #[.int .i64 m.rings, .int .i64 m.give, .int .i64 m.pl, .int .i64 m.ph, .int .i64 m.wl, .int .i64 m.wh, .int .i64 m.set, .int .i64 m.shrink, .int .i64 m.skin, .int .i64 m.fill, .int .i64 m.gap, .int .i64 m.deep, v1, v2] 102), (b4, .cells #[vw] 26), (b6, .cells #[.int .i64 h] 3), (g, .cells done.toArray 4), (b8, .cells #[.slice (some ⟨g, 0, none⟩) n n] 115)]
set_option maxRecDepth 100000 in
set_option maxHeartbeats 8000000 in
theorem end1_any (m : Mou) (hm : Valid m) (when : List Int) (n : Nat) (hn : when.length = n) (hr : (n : Int) = m.rings) (hwn : ∀ i, i < n → 0 ≤ when.getD i 0 ∧ when.getD i 0 ≤ 601)
    (T t h : Int) (hT : T ≤ t) (h0 : 0 ≤ h) (h1 : h ≤ 100000) (v1 v2 vw : Value) (b3 b4 b6 g b8 : Nat) (w0 w : World) (B : Nat) (hB : B ≤ w0.heap.size) (hv : IntsIn .i64 B w0 vw when)
    (H : Bs w0 (endBs m v1 v2 vw b3 b4 b6 g b8 n (doneTo when T t 0) h) w) :
    Calls Try.prog 73 #[.int .i64 t, .pointer (some ⟨b4, 0, none⟩), .pointer (some ⟨b8, 0, none⟩), .pointer (some ⟨b6, 0, none⟩), .pointer (some ⟨b3, 0, none⟩)] w
      fun e w' => e = .returned (.tuple #[]) ∧ Bs w0 (endBs m v1 v2 vw b3 b4 b6 g b8 n (doneTo when T t n) (h + fall m when t - fall m when T)) w' := by
  have HN := Lib.hid hn
  have HR := Lib.hid hr
  have HW := Lib.hid hwn
  have HM := Lib.hid hm
  have hn8 : n ≤ 8 := by have := hm.r8; omega
  obtain ⟨a, c, rfl, hl, hc⟩ := hv
  rw [hn] at hl hc H ⊢
  have HC := Lib.hid hc
  have c4 := H.cell 1 rfl
  have H0 := Lib.hid H
  clear hc H hn hr hwn hm
  go_enter Try.func73, Try.ntmps73
  go_wp2
  go_loopw [10] (fun i wr => ∃ k : Nat, k ≤ n ∧ i = .int .i64 k ∧ Bs w0 (endBs m v1 v2 (.slice a n c) b3 b4 b6 g b8 n (doneTo when T t k) (h + (fallTo m when t k - fallTo m when T k))) wr) (fun i _ => n - (intOf i).toNat)
  case atStart => exact ⟨0, by omega, rfl, by simp only [fallTo, Int.sub_self, Int.add_zero]; exact H0.out⟩
  case round =>
    obtain ⟨k, hk, rfl, hC⟩ := hrel
    by_cases hlt : k < n
    · obtain ⟨b, o, rfl, hbB, hc⟩ : ∃ b o, a = some ⟨b, o, none⟩ ∧ b < B ∧ ∀ i, i < n → w0.cell? ⟨b, o + i, none⟩ = some (.int .i64 (when.getD i 0)) := by
        rcases HC.out with h | h
        · rw [← HN.out, h] at hlt; simp at hlt
        · exact h
      have hck := (hC.bel.cell (p := ⟨b, o + k, none⟩) (show b < w0.heap.size by omega)).trans (hc k hlt)
      have hcd := hC.cell 3 rfl k
      have hkg : (doneTo when T t k).toArray[k]? = some (.bool (decide (when.getD k 0 ≤ T))) := by rw [List.getElem?_toArray, doneTo_at _ _ _ _ _ (by rw [HN.out]; exact hlt), if_neg (by omega)]
      rw [hkg] at hcd
      have c8 := hC.cell 4 rfl 0
      have c6 := hC.cell 2 rfl 0
      have c3 := hC.cell 0 rfl
      have C3 := Lib.hid hC
      have hwk := HW.out k hlt
      have hF1 := fallTo_bound HM.out when t k (by have := HR.out; omega)
      have hF2 := fallTo_bound HM.out when T k (by have := HR.out; omega)
      have hF3 := (allTo_bound HM.out k (by have := HR.out; omega)).2
      have hF4 := fallTo_le HM.out (a := when) (b := when) (t := T) (t' := t) k (by have := HR.out; omega) (fun i _ hp => by simp only [skinB, Bool.and_eq_true, decide_eq_true_eq] at hp ⊢; omega)
      have hS0 := shrI_nonneg HM.out (i := k) (by have := HR.out; omega)
      have hS1 := shrI_le HM.out k (by have := HR.out; omega)
      rw [← shrI_prog] at hS0 hS1
      have HFt : Hid (fallTo m when t (k + 1) = fallTo m when t k + if skinB t (when.getD k 0) = true then shrI m k else 0) := Lib.hid rfl
      have HFT : Hid (fallTo m when T (k + 1) = fallTo m when T k + if skinB T (when.getD k 0) = true then shrI m k else 0) := Lib.hid rfl
      have HST := Lib.hid (fun h => doneTo_stay when (T := T) (t := t) (k := k) h)
      have HSE := Lib.hid (fun h => doneTo_set when (T := T) (t := t) (k := k) (by rw [HN.out]; exact hlt) h)
      have hki : (k : Int) < (n : Int) := by omega
      have hdk : decide ((k : Int) < (n : Int)) = true := decide_eq_true hki
      have hdk' : decide (k < n) = true := decide_eq_true hlt
      have hmr : (m.rings : Int) ≤ 8 := HM.out.r8
      have hm1 : 1 ≤ m.rings := HM.out.r1
      have hms : 0 ≤ m.shrink := HM.out.s0
      have hms2 : m.shrink ≤ 200 := HM.out.s2
      obtain ⟨q, hq⟩ : ∃ q, h + (fallTo m when t k - fallTo m when T k) = q := ⟨_, rfl⟩
      have hq0 : 0 ≤ q := by omega
      have hq1 : q ≤ 200000 := by omega
      have HQ := Lib.hid hq
      have HLT := Lib.hid hlt
      rw [hq] at c6 C3
      generalize when.getD k 0 = x at *
      clear hC hc hkg hF1 hF2 hF3 hF4 hq hk hlt
      have hkp : 0 ≤ (k : Int) := by omega
      by_cases hx : x ≤ T
      · have hdx : decide (x ≤ T) = true := decide_eq_true hx
        have hdx2 : decide (x ≤ t) = true := decide_eq_true (by omega)
        rw [hdx] at hcd
        go_wp2_with fail
        go_roundw
        case rel =>
          refine ⟨k + 1, HLT.out, by go_num, ?_⟩
          rw [← HST.out (by rw [hdx, hdx2]), HFt.out, HFT.out, if_pos (by simp [skinB]; omega), if_pos (by simp [skinB]; omega)]
          have := C3.out
          rw [← HQ.out] at this
          rw [show h + (fallTo m when t k + shrI m k - (fallTo m when T k + shrI m k)) = h + (fallTo m when t k - fallTo m when T k) by omega]
          exact this
        case measure => have := HLT.out; simp [intOf]; omega
      · have hdx : decide (x ≤ T) = false := decide_eq_false hx
        rw [hdx] at hcd
        by_cases hxt : x ≤ t
        · have hdx2 : decide (x ≤ t) = true := decide_eq_true hxt
          go_wp2_with (first | (refine wpList_cell_bs rfl 4 _ _ rfl C3.out 3 _ k _ _ rfl rfl (.bool true) rfl (by rw [List.size_toArray, doneTo_len, HN.out]; exact HLT.out) rfl info4 ?_; intro w2 hC2; rw [HSE.out hxt] at hC2; have C4 := Lib.hid hC2; have c6 := hC2.cell 2 rfl 0; have c3 := hC2.cell 0 rfl; have f6 := hC2.free 2 rfl 0; clear hC2 hcd hck c8))
          go_roundw
          case rel =>
            refine ⟨k + 1, HLT.out, by go_num, ?_⟩
            rw [HFt.out, HFT.out, if_pos (by simp [skinB]; omega), if_neg (by simp [skinB]; omega)]
            have := C4.out.setCell 2 rfl 0 (.int .i64 (q + m.shrink * (2 * (m.rings - (k : Int)) - 1)))
            rw [shrI_prog] at this ⊢
            rw [show h + (fallTo m when t k + shrI m k - (fallTo m when T k + 0)) = h + (fallTo m when t k - fallTo m when T k) + shrI m k by omega, HQ.out]
            exact this
          case measure => have := HLT.out; simp [intOf]; omega
        · have hdx2 : decide (x ≤ t) = false := decide_eq_false hxt
          go_wp2_with fail
          go_roundw
          case rel =>
            refine ⟨k + 1, HLT.out, by go_num, ?_⟩
            rw [← HST.out (by rw [hdx, hdx2]), HFt.out, HFT.out, if_neg (by simp [skinB]; omega), if_neg (by simp [skinB]; omega)]
            have := C3.out
            rw [← HQ.out] at this
            rw [show h + (fallTo m when t k + 0 - (fallTo m when T k + 0)) = h + (fallTo m when t k - fallTo m when T k) by omega]
            exact this
          case measure => have := HLT.out; simp [intOf]; omega
    · have hke : k = n := by omega
      subst hke
      have hdk : decide ((k : Int) < (k : Int)) = false := by simp
      have C3 := Lib.hid hC
      clear hC
      go_wp2_with fail
      refine bodyPost_end (results_none rfl _ _ _) rfl ⟨rfl, ?_⟩
      have := C3.out
      unfold fall
      rw [HN.out, show h + fallTo m when t k - fallTo m when T k = h + (fallTo m when t k - fallTo m when T k) by omega]
      exact this
/-- Which of the rings have shrunk up to T. -/
abbrev doneA (when : List Int) (T : Int) : List Value := doneTo when T 0 0
theorem doneA_in (when : List Int) (T t : Int) : doneA when T = doneTo when T t 0 := by simp [doneTo]
theorem doneA_out (when : List Int) (T t : Int) {n : Nat} (h : when.length ≤ n) : doneTo when T t n = doneA when t := (doneTo_start when h rfl).symm
theorem end1_calls (m : Mou) (hm : Valid m) (when : List Int) (n : Nat) (hn : when.length = n) (hr : (n : Int) = m.rings) (hwn : ∀ i, i < n → 0 ≤ when.getD i 0 ∧ when.getD i 0 ≤ 601)
    (T t h : Int) (hT : T ≤ t) (h0 : 0 ≤ h) (h1 : h ≤ 100000) (v1 v2 vw : Value) (b3 b4 b6 g b8 : Nat) (w0 w : World) (B : Nat) (hB : B ≤ w0.heap.size) (hv : IntsIn .i64 B w0 vw when)
    (H : Bs w0 (endBs m v1 v2 vw b3 b4 b6 g b8 n (doneA when T) h) w) :
    Calls Try.prog 73 #[.int .i64 t, .pointer (some ⟨b4, 0, none⟩), .pointer (some ⟨b8, 0, none⟩), .pointer (some ⟨b6, 0, none⟩), .pointer (some ⟨b3, 0, none⟩)] w
      fun e w' => e = .returned (.tuple #[]) ∧ Bs w0 (endBs m v1 v2 vw b3 b4 b6 g b8 n (doneA when t) (h + fall m when t - fall m when T)) w' := by
  rw [doneA_in when T t] at H
  refine (end1_any m hm when n hn hr hwn T t h hT h0 h1 v1 v2 vw b3 b4 b6 g b8 w0 w B hB hv H).mono ?_
  rintro e w' ⟨rfl, h⟩
  rw [doneA_out when T t (by omega)] at h
  exact ⟨rfl, h⟩
/-- The minute before the k-th topping. -/
def lastT (plan : List Int) (k : Nat) : Int := if k = 0 then -1 else plan.getD (k - 1) 0
theorem pourL_take (F : Int → Int) (fill : Int) (plan : List Int) {k : Nat} (h : k < plan.length) : pourL F fill (plan.take (k + 1)) = min (pourL F fill (plan.take k) + fill) (F (plan.getD k 0)) := by
  unfold pourL
  rw [List.take_succ_eq_append_getElem h, pourF_append]
  simp [pourF, List.getD, h]
theorem fall_before {m : Mou} {when : List Int} (h : ∀ i, i < when.length → 0 ≤ when.getD i 0) : fall m when (-1) = 0 := fallTo_none (fun i hi => by have := h i hi; omega) _ (Nat.le_refl _)
theorem fall_after {m : Mou} {when : List Int} {t : Int} (h : ∀ i, i < when.length → 0 ≤ when.getD i 0 ∧ when.getD i 0 ≤ t) : fall m when t = allTo m when.length :=
  fallTo_all _ (fun i hi => by have := h i hi; simp only [skinB, Bool.and_eq_true, decide_eq_true_eq]; omega)
/-- A plan whose toppings are in order. -/
structure InOrder (plan : List Int) : Prop where
  ends : ∀ i, i < plan.length → 0 ≤ plan.getD i 0 ∧ plan.getD i 0 ≤ 600
  up : ∀ i j, i < j → j < plan.length → plan.getD i 0 ≤ plan.getD j 0
theorem InOrder.last {plan : List Int} (h : InOrder plan) {k : Nat} (hk : k < plan.length) : lastT plan k ≤ plan.getD k 0 := by
  unfold lastT
  have := h.ends k hk
  split
  · omega
  · exact h.up _ _ (by omega) hk
theorem lastT_succ (plan : List Int) (k : Nat) : lastT plan (k + 1) = plan.getD k 0 := by simp [lastT]
theorem InOrder.lastT_le {plan : List Int} (h : InOrder plan) {k : Nat} (hk : k ≤ plan.length) : -1 ≤ lastT plan k ∧ lastT plan k ≤ 600 := by
  unfold lastT
  split
  · omega
  · have := h.ends (k - 1) (by omega)
    omega
set_option maxRecDepth 100000 in
set_option maxHeartbeats 8000000 in
theorem end_any (m : Mou) (hm : Valid m) (when : List Int) (n : Nat) (hn : when.length = n) (hr : (n : Int) = m.rings) (hwn : ∀ i, i < n → 0 ≤ when.getD i 0 ∧ when.getD i 0 ≤ 601)
    (plan : List Int) (hp : InOrder plan) (a1 a2 : Option Addr) (vw vp : Value) (w : World) (hv : IntsIn .i64 w.heap.size w vw when) (hvp : IntsIn .i64 w.heap.size w vp plan) :
    Calls Try.prog 66 #[.agg #[.int .i64 m.rings, .int .i64 m.give, .int .i64 m.pl, .int .i64 m.ph, .int .i64 m.wl, .int .i64 m.wh, .int .i64 m.set, .int .i64 m.shrink, .int .i64 m.skin, .int .i64 m.fill, .int .i64 m.gap, .int .i64 m.deep, .slice a1 n n, .slice a2 n n], vw, vp] w
      fun e w' => e = .returned (.tuple #[.int .i64 (holV m when plan), .int .i64 (pourL (fall m when) m.fill plan)]) ∧ Below w.heap.size w w' := by
  have HN := Lib.hid hn
  have HR := Lib.hid hr
  have HWN := Lib.hid hwn
  have HM := Lib.hid hm
  have HPL := Lib.hid hp
  have HV := Lib.hid hv
  have hn8 : n ≤ 8 := by have := hm.r8; omega
  have hn1 : 1 ≤ n := by have := hm.r1; omega
  obtain ⟨a, c, rfl, hl, hc⟩ := hvp
  have HC := Lib.hid hc
  obtain ⟨a3, c3, hvw⟩ : ∃ a c, vw = .slice a n c := by obtain ⟨a, c, e, -⟩ := hv; exact ⟨a, c, by rw [e, hn]⟩
  subst hvw
  have C0 := Lib.hid ((((Bs.nil w).push _ rfl (.cells #[.int .i64 m.rings, .int .i64 m.give, .int .i64 m.pl, .int .i64 m.ph, .int .i64 m.wl, .int .i64 m.wh, .int .i64 m.set, .int .i64 m.shrink, .int .i64 m.skin, .int .i64 m.fill, .int .i64 m.gap, .int .i64 m.deep, .slice a1 n n, .slice a2 n n] 102)).push (w.heap.size + 1) (by simp) (.cells #[.slice a3 n c3] 26)).push (w.heap.size + 1 + 1) (by simp) (.cells #[.int .i64 0] 3))
  have C9 := Lib.hid (C0.out.push (w.heap.size + 1 + 1 + 1) (by simp) (.cells #[.bool false] 4))
  have HSZ : Hid (((((w.alloc (.cells #[.int .i64 m.rings, .int .i64 m.give, .int .i64 m.pl, .int .i64 m.ph, .int .i64 m.wl, .int .i64 m.wh, .int .i64 m.set, .int .i64 m.shrink, .int .i64 m.skin, .int .i64 m.fill, .int .i64 m.gap, .int .i64 m.deep, .slice a1 n n, .slice a2 n n] 102)).alloc (.cells #[.slice a3 n c3] 26)).alloc (.cells #[.int .i64 0] 3)).alloc (.cells #[.bool false] 4)).heap.size = w.heap.size + 1 + 1 + 1 + 1) := by unfold Hid; simp
  clear hv hn hr hwn hm hp hc
  go_enter Try.func66, Try.ntmps66
  go_wp2_with (go_at_call 72; refine (repB_any (.bool false) rfl (w.heap.size + 1 + 1 + 1) 0 1 n hn1 hn8 _ (C9.out.lt 3 rfl) (C9.out.cell 3 rfl 0)).mono ?_; rintro e w1 ⟨g, rfl, hg, hgs, hbw⟩; have HG := Lib.hid hg; have HGS := Lib.hid hgs; have HBW := Lib.hid hbw; clear hg hgs hbw)
  have hgs2 : w.heap.size + 1 + 1 + 1 + 1 ≤ g := by rw [← HSZ.out]; exact HGS.out
  have C1 := Lib.hid (((C0.out.alloc _).call HBW.out).snoc HG.out (by
    intro p hp
    simp at hp
    rcases hp with rfl | rfl | rfl
    all_goals first | omega | (simp; done) | (simp; omega)) (by omega))
  have C2 := Lib.hid (C1.out.push w1.heap.size rfl (.cells #[.slice (some ⟨g, 0, none⟩) n n] 115))
  have C3 : Hid (Bs w (endBs m (.slice a1 n n) (.slice a2 n n) (.slice a3 n c3) w.heap.size (w.heap.size + 1) (w.heap.size + 1 + 1) g w1.heap.size n (doneA when (lastT plan 0)) (fall m when (lastT plan 0) - pourL (fall m when) m.fill (plan.take 0))) (w1.alloc (.cells #[.slice (some ⟨g, 0, none⟩) n n] 115))) := by
    unfold Hid
    have h := C2.out
    have e1 : lastT plan 0 = -1 := rfl
    have e2 : pourL (fall m when) m.fill (plan.take 0) = 0 := rfl
    rw [e1, e2, fall_before (fun i hi => (HWN.out i (by rw [← HN.out]; exact hi)).1), doneA, ← doneTo_none when (fun i hi => (HWN.out i (by rw [← HN.out]; exact hi)).1), HN.out]
    exact h
  clear C2 C1 C0 C9
  go_loopw [7, 20] (fun p i wr => ∃ k : Nat, k ≤ plan.length ∧ i = .int .i64 k ∧ p = .int .i64 (pourL (fall m when) m.fill (plan.take k)) ∧ 0 ≤ pourL (fall m when) m.fill (plan.take k) ∧ pourL (fall m when) m.fill (plan.take k) ≤ fall m when (lastT plan k) ∧ Bs w (endBs m (.slice a1 n n) (.slice a2 n n) (.slice a3 n c3) w.heap.size (w.heap.size + 1) (w.heap.size + 1 + 1) g w1.heap.size n (doneA when (lastT plan k)) (fall m when (lastT plan k) - pourL (fall m when) m.fill (plan.take k))) wr) (fun _ i _ => plan.length - (intOf i).toNat)
  case atStart => exact ⟨0, by omega, rfl, rfl, Int.le_refl _, by rw [show lastT plan 0 = -1 from rfl, fall_before (fun i hi => (HWN.out i (by rw [← HN.out]; exact hi)).1)]; exact Int.le_refl _, C3.out⟩
  case round =>
    obtain ⟨k, hk, rfl, rfl, hp0, hp1, hC⟩ := hrel
    by_cases hlt : k < plan.length
    · obtain ⟨b, o, rfl, hbB, hc⟩ : ∃ b o, a = some ⟨b, o, none⟩ ∧ b < w.heap.size ∧ ∀ i, i < plan.length → w.cell? ⟨b, o + i, none⟩ = some (.int .i64 (plan.getD i 0)) := by
        rcases HC.out with h | h
        · rw [h] at hlt; simp at hlt
        · exact h
      have hck := (hC.bel.cell (p := ⟨b, o + k, none⟩) hbB).trans (hc k hlt)
      have C4 := Lib.hid hC
      have hTk := HPL.out.last hlt
      have hte := HPL.out.ends k hlt
      have HLS := Lib.hid (lastT_succ plan k)
      have HPT := Lib.hid (pourL_take (fall m when) m.fill plan hlt)
      have hlen : plan.length ≤ 1000000000000000 := hl
      have hFT := fall_grows HM.out (when := when) (by rw [HN.out]; exact HR.out) hTk
      have hF1 := fall_le HM.out (when := when) (by rw [HN.out]; exact HR.out) (plan.getD k 0)
      have hF2 := (allTo_bound HM.out when.length (by rw [HN.out, HR.out]; exact Int.le_refl _)).2
      have hF3 := fall_nonneg HM.out (when := when) (by rw [HN.out]; exact HR.out) (lastT plan k)
      have hki : (k : Int) < (plan.length : Int) := by omega
      have hdk : decide ((k : Int) < (plan.length : Int)) = true := decide_eq_true hki
      have hdk' : decide (k < plan.length) = true := decide_eq_true hlt
      have hfl : 1 ≤ m.fill := HM.out.f1
      have hfl2 : m.fill ≤ 100000 := HM.out.f2
      have hF4 : fall m when (plan.getD k 0) ≤ 24000 := by rw [HN.out] at hF1 hF2; omega
      have HLT := Lib.hid hlt
      clear hF1 hF2 hC hc hk hlt
      generalize plan.getD k 0 = t at *
      generalize lastT plan k = T at *
      generalize pourL (fall m when) m.fill (plan.take k) = p at *
      obtain ⟨Ft, hFt⟩ : ∃ x, fall m when t = x := ⟨_, rfl⟩
      obtain ⟨FT, hFT2⟩ : ∃ x, fall m when T = x := ⟨_, rfl⟩
      have HFt := Lib.hid hFt
      have HFT2 := Lib.hid hFT2
      rw [hFt] at hFT hF4 HPT
      rw [hFT2] at hFT hF3 hp1 C4
      clear hFt hFT2
      have hmn1 : min m.fill (Ft - p) ≤ m.fill := by omega
      have hmn2 : min m.fill (Ft - p) ≤ Ft - p := by omega
      have hmn3 : 0 ≤ min m.fill (Ft - p) := by omega
      have HH : Hid (FT - p + Ft - FT = Ft - p) := by unfold Hid; omega
      go_wp2_with (go_at_call 73; refine (end1_calls m HM.out when n HN.out HR.out HWN.out T t (FT - p) hTk (by omega) (by omega) _ _ _ _ _ _ _ _ w _ w.heap.size (Nat.le_refl _) HV.out C4.out).mono ?_; rintro e w5 ⟨rfl, hC5⟩; rw [HFt.out, HFT2.out, HH.out] at hC5; have C5 := Lib.hid hC5; have c3 := hC5.cell 0 rfl; have c6 : w5.cell? ⟨w.heap.size + 1 + 1, 0, none⟩ = some (.int .i64 (Ft - p)) := hC5.cell 2 rfl 0; have f6 := hC5.free 2 rfl 0; clear hC5)
      go_roundw
      case rel =>
        have hC := C5.out.setCell 2 rfl 0 (.int .i64 (Ft - p - min m.fill (Ft - p)))
        have e : min (p + m.fill) Ft = p + min m.fill (Ft - p) := by omega
        rw [show Ft - p - min m.fill (Ft - p) = Ft - (p + min m.fill (Ft - p)) by omega] at hC ⊢
        refine ⟨k + 1, HLT.out, by go_num, ?_⟩
        rw [HPT.out, HLS.out, HFt.out, e]
        exact ⟨rfl, by omega, by omega, hC⟩
      case measure => have := HLT.out; simp [intOf]; omega
    · have hke : k = plan.length := by omega
      have C4 := Lib.hid hC
      have hTe := HPL.out.lastT_le hk
      have hdk : decide ((k : Int) < (plan.length : Int)) = false := decide_eq_false (by omega)
      have hki : ¬ ((k : Int) < (plan.length : Int)) := by omega
      have hl600 : ∀ i, i < when.length → 0 ≤ when.getD i 0 ∧ when.getD i 0 ≤ 601 := fun i hi => HWN.out i (by rw [← HN.out]; exact hi)
      have HAF := Lib.hid (fall_after (m := m) hl600)
      have hF1 := fall_le HM.out (when := when) (by rw [HN.out]; exact HR.out) (lastT plan k)
      have hF2 := (allTo_bound HM.out when.length (by rw [HN.out, HR.out]; exact Int.le_refl _)).2
      have hF4 : fall m when (lastT plan k) ≤ 24000 := by rw [HN.out] at hF1 hF2; omega
      have HHO : Hid (holV m when plan = allTo m when.length - pourL (fall m when) m.fill (plan.take k)) := by unfold Hid holV; rw [hke, List.take_length]
      have HPO : Hid (pourL (fall m when) m.fill plan = pourL (fall m when) m.fill (plan.take k)) := by unfold Hid; rw [hke, List.take_length]
      clear hC hl600 hF1 hF2 hke hlt
      generalize lastT plan k = T at *
      generalize pourL (fall m when) m.fill (plan.take k) = p at *
      obtain ⟨FT, hFT2⟩ : ∃ x, fall m when T = x := ⟨_, rfl⟩
      have HFT2 := Lib.hid hFT2
      rw [hFT2] at hp1 C4 hF4
      clear hFT2
      have HH : Hid (FT - p + allTo m when.length - FT = allTo m when.length - p) := by unfold Hid; omega
      go_wp2_with (go_at_call 73; refine (end1_calls m HM.out when n HN.out HR.out HWN.out T 601 (FT - p) (by omega) (by omega) (by omega) _ _ _ _ _ _ _ _ w _ w.heap.size (Nat.le_refl _) HV.out C4.out).mono ?_; rintro e w5 ⟨rfl, hC5⟩; rw [HAF.out, HFT2.out, HH.out] at hC5; have C5 := Lib.hid hC5; have c6 : w5.cell? ⟨w.heap.size + 1 + 1, 0, none⟩ = some (.int .i64 (allTo m when.length - p)) := hC5.cell 2 rfl 0; have f6 := hC5.free 2 rfl 0; clear hC5)
      have C6 := C5.out.setCell 2 rfl 0 (.int .i64 (allTo m when.length - p))
      have c7 := C6.cell 2 rfl 0
      rw [HHO.out, HPO.out]
      generalize w5.setCell ⟨w.heap.size + 1 + 1, 0, none⟩ (.int .i64 (allTo m when.length - p)) = w6 at *
      refine bodyPost_ret (v := .tuple #[.int .i64 (allTo m when.length - p), .int .i64 p]) ?_ rfl ⟨rfl, C6.bel⟩
      rw [results_cell_tmp (fn := Try.f66) rfl]
      go_simp
end Go.Proofs.Ytafdagjdpnaddaa
