/- What Risks says, plainly; the first days of a way. -/
import Derived.Test.YtddapabmfecidaaP1
import Derived.Test.YtddapabmfecidaaW17
namespace Go.Proofs.Ytddapabmfecidaa

/-- The spans of the first k days, the last one first. -/
def rl (s : Sea) (way : List Int) : Nat → List (Int × Int)
  | 0 => []
  | k + 1 => s.at (way.getD k 0).toNat k :: rl s way k
def WayIn (s : Sea) (way : List Int) : Prop := ∀ d, d < way.length → 0 ≤ way.getD d 0 ∧ way.getD d 0 < s.stores.length
theorem at_ok {s : Sea} {way : List Int} (hg : Good s) (hl : way.length ≤ s.len) (hw : WayIn s way) {k : Nat} (hk : k < way.length) :
    0 ≤ (s.at (way.getD k 0).toNat k).1 ∧ (s.at (way.getD k 0).toNat k).1 ≤ (s.at (way.getD k 0).toNat k).2 ∧ (s.at (way.getD k 0).toNat k).2 ≤ 60 := by
  have := hw k hk
  exact hg.span (way.getD k 0).toNat (by omega) k (by omega)
theorem rl_ok {s : Sea} {way : List Int} (hg : Good s) (hl : way.length ≤ s.len) (hw : WayIn s way) : ∀ k, k ≤ way.length → SpOk (rl s way k)
  | 0, _ => by intro p hp; simp [rl] at hp
  | k + 1, hk => by
    intro p hp
    rcases List.mem_cons.1 hp with rfl | hp
    · exact at_ok hg hl hw (by omega)
    · exact rl_ok hg hl hw k (by omega) p hp
theorem rl_length (s : Sea) (way : List Int) : ∀ k, (rl s way k).length = k
  | 0 => rfl
  | k + 1 => by simp [rl, rl_length s way k]
theorem riskTo_rl {s : Sea} {way : List Int} (hg : Good s) (hl : way.length ≤ s.len) (hw : WayIn s way) : ∀ k, k ≤ way.length → riskTo s (upD s way k) = (MV s.bend (rl s way k), HV s.bend (rl s way k), JV s.jump (rl s way k))
  | 0, _ => rfl
  | k + 1, hk => by
    have ih := riskTo_rl hg hl hw k (by omega)
    have h := at_ok hg hl hw (k := k) (by omega)
    have h8 := hg.len.2
    rw [upD_succ, riskTo_snoc, ih]
    unfold dayW
    rw [dif_pos ⟨h.1, h.2.1, h.2.2, by omega⟩]
    rfl
theorem riskV_ok {s : Sea} {way : List Int} (he : openE s way = 0) : riskV s way = (MV s.bend (rl s way way.length), JM s.jump (rl s way way.length), 0) := by
  have hg := good_of_ok (openE_ok he).1
  have hw := way_ok (openE_ok he).2
  unfold riskV
  rw [if_pos he, riskTo_rl hg hw.2.1 hw.2.2 _ (Nat.le_refl _)]
  rfl
theorem riskV_bad {s : Sea} {way : List Int} (he : openE s way ≠ 0) : riskV s way = (0, 0, openE s way) := by unfold riskV; rw [if_neg he]
theorem riskV_err (s : Sea) (way : List Int) : (riskV s way).2.2 = openE s way := by
  unfold riskV
  split
  · rename_i h; rw [h]
  · rfl
theorem MV_step (be : Int) (p : Int × Int) (l : List (Int × Int)) : MV be l ≤ MV be (p :: l) := by rw [show MV be (p :: l) = max (MV be l) (HV be (p :: l)) from rfl]; omega
theorem jr_step (jm x : Int) (t : List Int) : jr jm t ≤ jr jm (x :: t) := by
  cases t with
  | nil => exact Int.le_refl _
  | cons y t =>
    have := jb_bound jm y x
    rw [show jr jm (x :: y :: t) = jb jm y x + jr jm (y :: t) from rfl]
    omega
theorem JM_step (jm : Int) {p : Int × Int} {l : List (Int × Int)} (hok : SpOk (p :: l)) (hne : l ≠ []) : JM jm l ≤ JM jm (p :: l) :=
  JM_mono hok.tail hok hne (by simp) (fun t ht => ⟨p.1 :: t, .cons (Int.le_refl _) hok.head.2.1 ht, jr_step jm _ _⟩)
theorem MV_first (s : Sea) (way : List Int) (n : Nat) : ∀ k, MV s.bend (rl s way n) ≤ MV s.bend (rl s way (n + k))
  | 0 => Int.le_refl _
  | k + 1 => Int.le_trans (MV_first s way n k) (MV_step _ _ _)
theorem JM_first {s : Sea} {way : List Int} (hg : Good s) (hl : way.length ≤ s.len) (hw : WayIn s way) {n : Nat} (hn : 0 < n) : ∀ k, n + k ≤ way.length → JM s.jump (rl s way n) ≤ JM s.jump (rl s way (n + k))
  | 0, _ => Int.le_refl _
  | k + 1, h => Int.le_trans (JM_first hg hl hw hn k (by omega)) (JM_step s.jump (rl_ok hg hl hw (n + k + 1) (by omega)) (by
      intro e
      have := rl_length s way (n + k)
      rw [e] at this
      simp at this
      omega))
theorem take_getD (way : List Int) (n d : Nat) (hd : d < n) : (way.take n).getD d 0 = way.getD d 0 := by
  rw [List.getD_eq_getElem?_getD, List.getD_eq_getElem?_getD, List.getElem?_take, if_pos hd]
theorem rl_take (s : Sea) (way : List Int) (n : Nat) : ∀ k, k ≤ n → rl s (way.take n) k = rl s way k
  | 0, _ => rfl
  | k + 1, hk => by
    rw [rl, rl, rl_take s way n k (by omega), take_getD way n k (by omega)]
theorem openE_mk {s : Sea} {way : List Int} (hc : (checkV s).2.2 = 0) (h1 : 1 ≤ way.length) (hl : way.length ≤ s.len) (hw : WayIn s way) : openE s way = 0 := by
  unfold openE
  rw [if_pos hc]
  unfold wayE
  rw [if_pos (by unfold inB; simp; omega)]
  split
  · rename_i h
    exfalso
    unfold outB at h
    rw [List.any_eq_true] at h
    obtain ⟨x, hx, ho⟩ := h
    obtain ⟨d, hd, rfl⟩ := List.getElem_of_mem hx
    have := hw d hd
    rw [List.getD_eq_getElem?_getD, List.getElem?_eq_getElem hd] at this
    unfold outOne at ho
    simp at ho this
    omega
  · rfl
theorem openE_take {s : Sea} {way : List Int} (he : openE s way = 0) {n : Nat} (h1 : 1 ≤ n) (hn : n ≤ way.length) : openE s (way.take n) = 0 := by
  have hw := way_ok (openE_ok he).2
  have hlen : (way.take n).length = n := by simp; omega
  refine openE_mk (openE_ok he).1 (by omega) (by omega) (fun d hd => ?_)
  rw [hlen] at hd
  rw [take_getD way n d hd]
  exact hw.2.2 d (by omega)
theorem JM_lt (jm : Int) {l : List (Int × Int)} (hok : SpOk l) (hne : l ≠ []) : JM jm l < l.length := by
  obtain ⟨t, ht, he⟩ := JM_reach jm hok hne
  cases ht with
  | nil => exact absurd rfl hne
  | @cons p l x t h1 h2 h3 =>
    have := jr_le jm x t
    have := h3.length
    simp only [List.length_cons]
    omega
theorem MV_le (be : Int) : ∀ l : List (Int × Int), 0 ≤ HV be l ∧ HV be l ≤ l.length ∧ MV be l ≤ l.length
  | [] => by simp [HV, MV]
  | p :: l => by
    have := MV_le be l
    unfold MV
    unfold HV hotV
    simp only [List.length_cons]
    split <;> omega
/-- **On the first days** Risks says no more. -/
theorem risk_first {s : Sea} {way : List Int} (he : openE s way = 0) {n : Nat} (h1 : 1 ≤ n) (hn : n ≤ way.length) :
    (riskV s (way.take n)).2.2 = 0 ∧ (riskV s (way.take n)).1 ≤ (riskV s way).1 ∧ (riskV s (way.take n)).2.1 ≤ (riskV s way).2.1 ∧ (riskV s way).1 ≤ way.length ∧ (riskV s way).2.1 < way.length := by
  have hg := good_of_ok (openE_ok he).1
  have hw := way_ok (openE_ok he).2
  have hlen : (way.take n).length = n := by simp; omega
  have hne : rl s way way.length ≠ [] := by
    intro e
    have := rl_length s way way.length
    rw [e] at this
    simp at this
    omega
  rw [riskV_ok he, riskV_ok (openE_take he h1 hn), hlen, rl_take s way n n (Nat.le_refl _)]
  have a := MV_first s way n (way.length - n)
  have b := JM_first hg hw.2.1 hw.2.2 (show 0 < n by omega) (way.length - n) (by omega)
  rw [show n + (way.length - n) = way.length by omega] at a b
  have c := (MV_le s.bend (rl s way way.length)).2.2
  have d := JM_lt s.jump (rl_ok hg hw.2.1 hw.2.2 way.length (Nat.le_refl _)) hne
  rw [rl_length] at c d
  exact ⟨rfl, a, b, c, d⟩
end Go.Proofs.Ytddapabmfecidaa
