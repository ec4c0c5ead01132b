/- Plain: wider ranges; the hollow when rings set earlier. -/
import Derived.Test.YtafdagjdpnaddaaP4
namespace Go.Proofs.Ytafdagjdpnaddaa
/-- The earlier rings set, the less deep is the hollow. -/
theorem hol_mono {m : Mou} (hm : Valid m) {a b : List Int} (h : NoLater a b) (hl : (b.length : Int) = m.rings) (plan : List Int) : holV m a plan ≤ holV m b plan := by
  unfold holV pourL
  rw [h.1]
  have := pourF_le (F := fall m b) (G := fall m a) (fill := m.fill) (a := plan) (b := plan) (p := 0) (q := 0) (Int.le_refl _) rfl (fun i _ => fall_mono hm h hl _)
  omega
/-- A mould with wider Pour and Wall. -/
def wideM (m : Mou) (pl ph wl wh : Int) : Mou := { m with pl := pl, ph := ph, wl := wl, wh := wh }
structure Wider (m : Mou) (pl ph wl wh : Int) : Prop where
  p0 : 0 ≤ pl
  p1 : pl ≤ m.pl
  p2 : m.ph ≤ ph
  p3 : ph ≤ 2000
  w0 : 0 ≤ wl
  w1 : wl ≤ m.wl
  w2 : m.wh ≤ wh
  w3 : wh ≤ 2000
section
variable {m : Mou} {pl ph wl wh : Int}
theorem Wider.valid (h : Wider m pl ph wl wh) (hm : Valid m) : Valid (wideM m pl ph wl wh) := by
  obtain ⟨a1, a2, a3, a4, a5, a6, a7, a8, a9, b1, b2, b3, b4, b5, b6, b7, b8, b9, c1, c2, c3, c4⟩ := hm
  obtain ⟨d1, d2, d3, d4, d5, d6, d7, d8⟩ := h
  constructor <;> simp only [wideM] <;> omega
theorem leL_repl {x y : Int} (h : x ≤ y) (n : Nat) : LeL (List.replicate n x) (List.replicate n y) := ⟨by simp, fun i hi => by
  rw [List.length_replicate] at hi
  simpa [List.getD, hi] using h⟩
theorem Wider.cold (h : Wider m pl ph wl wh) (n : Nat) : LeL (sameP (wideM m pl ph wl wh) false) (sameP m false) ∧ LeL (sameW (wideM m pl ph wl wh) false n) (sameW m false n) :=
  ⟨leL_repl h.p1 _, leL_repl h.w1 _⟩
theorem Wider.hot (h : Wider m pl ph wl wh) (n : Nat) : LeL (sameP m true) (sameP (wideM m pl ph wl wh) true) ∧ LeL (sameW m true n) (sameW (wideM m pl ph wl wh) true n) :=
  ⟨leL_repl h.p2 _, leL_repl h.w2 _⟩
theorem Wider.warmC (h : Wider m pl ph wl wh) (hm : Valid m) (n : Nat) : LeL (warmL (wideM m pl ph wl wh) false n) (warmL m false n) :=
  runL_mono (g := m.give) (by have := hm.g1; omega) hm.g5 _ _ _ _ (h.cold n).1 (h.cold n).2
theorem Wider.warmH (h : Wider m pl ph wl wh) (hm : Valid m) (n : Nat) : LeL (warmL m true n) (warmL (wideM m pl ph wl wh) true n) :=
  runL_mono (g := m.give) (by have := hm.g1; omega) hm.g5 _ _ _ _ (h.hot n).1 (h.hot n).2
theorem Wider.endsC (h : Wider m pl ph wl wh) (hm : Valid m) : NoLater (endsL (wideM m pl ph wl wh) false) (endsL m false) := whenL_mono hm (h.cold 600).1 (h.cold 600).2
theorem Wider.endsH (h : Wider m pl ph wl wh) (hm : Valid m) : NoLater (endsL m true) (endsL (wideM m pl ph wl wh) true) := whenL_mono hm (h.hot 600).1 (h.hot 600).2
theorem warmL_len (m : Mou) (hot : Bool) (n : Nat) : (warmL m hot n).length = m.rings.toNat := by unfold warmL; rw [runL_length]; simp [sameP]
theorem zip_getD : ∀ {a b : List Int} {i : Nat}, i < a.length → i < b.length → (a.zip b).getD i (0, 0) = (a.getD i 0, b.getD i 0)
  | [], _, _, h, _ => by simp at h
  | _ :: _, [], _, _, h => by simp at h
  | x :: a, y :: b, 0, _, _ => by simp
  | x :: a, y :: b, i + 1, h1, h2 => by
    simp only [List.zip_cons_cons, List.getD_cons_succ]
    exact zip_getD (by simpa using h1) (by simpa using h2)
theorem poursB_iff {when plan : List Int} : poursB m when plan = true ↔ ∀ t ∈ plan, (skinN when t : Int) ≤ m.skin := by simp [poursB]
/-- What can be poured where rings set earlier, can be poured where they set later. -/
theorem pours_later {a b plan : List Int} (h : NoLater a b) (hp : poursB m a plan = true) : poursB m b plan = true :=
  poursB_iff.2 fun t ht => by have h1 := poursB_iff.1 hp t ht; have h2 := skin_mono h t; omega
theorem never_later {a b : List Int} (h : NoLater a b) (hb : neverB b = false) : neverB a = false := by
  unfold neverB at hb ⊢
  rw [List.any_eq_false] at hb ⊢
  intro x hx
  obtain ⟨i, hi, he⟩ := List.mem_iff_getElem.1 hx
  have hib : i < b.length := by rw [← h.1]; exact hi
  have := hb _ (List.getElem_mem hib)
  have h2 := (h.2 i hi).2
  simp only [List.getD_eq_getElem?_getD, List.getElem?_eq_getElem hi, List.getElem?_eq_getElem hib, Option.getD_some] at h2
  simp only [decide_eq_true_eq] at this ⊢
  rw [he] at h2
  omega
theorem Wider.hollowE (h : Wider m pl ph wl wh) (hm : Valid m) {plan : List Int} (hE : hollowE (wideM m pl ph wl wh) plan = 0) : hollowE m plan = 0 := by
  unfold Go.Proofs.Ytafdagjdpnaddaa.hollowE at hE ⊢
  rw [check_of_valid (h.valid hm), if_neg (by simp)] at hE
  rw [check_of_valid hm, if_neg (by simp)]
  have hp : planE (wideM m pl ph wl wh) plan = planE m plan := rfl
  rw [hp] at hE
  by_cases h1 : planE m plan ≠ 0
  · rw [if_pos h1] at hE; exact absurd hE h1
  rw [if_neg h1] at hE ⊢
  cases h2 : neverB (endsL (wideM m pl ph wl wh) true) with
  | true => rw [h2] at hE; simp at hE
  | false =>
    rw [never_later (h.endsH hm) h2]
    rw [h2] at hE
    cases h3 : poursB (wideM m pl ph wl wh) (endsL (wideM m pl ph wl wh) false) plan with
    | false => rw [h3] at hE; simp at hE
    | true =>
      have h4 : poursB m (endsL (wideM m pl ph wl wh) false) plan = true := h3
      rw [pours_later (h.endsC hm) h4]
      simp
theorem endsL_lenI (hm : Valid m) (hot : Bool) : ((endsL m hot).length : Int) = m.rings := by
  rw [endsL_length]
  have := hm.r1
  omega
theorem allTo_wide (pl ph wl wh : Int) : ∀ k, allTo (wideM m pl ph wl wh) k = allTo m k
  | 0 => rfl
  | k + 1 => by simp only [allTo]; rw [allTo_wide pl ph wl wh k]; rfl
theorem fallTo_wide (pl ph wl wh : Int) (when : List Int) (t : Int) : ∀ k, fallTo (wideM m pl ph wl wh) when t k = fallTo m when t k
  | 0 => rfl
  | k + 1 => by simp only [fallTo]; rw [fallTo_wide pl ph wl wh when t k]; rfl
theorem holV_wide (pl ph wl wh : Int) (when plan : List Int) : holV (wideM m pl ph wl wh) when plan = holV m when plan := by
  have : fall (wideM m pl ph wl wh) when = fall m when := funext fun t => fallTo_wide pl ph wl wh when t _
  unfold holV
  rw [allTo_wide, this]
  rfl
theorem Wider.holC (h : Wider m pl ph wl wh) (hm : Valid m) (plan : List Int) : holV (wideM m pl ph wl wh) (endsL (wideM m pl ph wl wh) false) plan ≤ holV m (endsL m false) plan := by
  rw [holV_wide]
  exact hol_mono hm (h.endsC hm) (endsL_lenI hm false) plan
theorem Wider.holH (h : Wider m pl ph wl wh) (hm : Valid m) (plan : List Int) : holV m (endsL m true) plan ≤ holV (wideM m pl ph wl wh) (endsL (wideM m pl ph wl wh) true) plan := by
  rw [holV_wide]
  exact hol_mono hm (h.endsH hm) (endsL_lenI (h.valid hm) true) plan
theorem wider_of (hm : Valid m) {a b c d : Int} (ha : 0 ≤ a) (hb : 0 ≤ b) (hc : 0 ≤ c) (hd : 0 ≤ d) : Wider m (max 0 (m.pl - a)) (min 2000 (m.ph + b)) (max 0 (m.wl - c)) (min 2000 (m.wh + d)) := by
  have := hm.p0
  have := hm.p2
  have := hm.w0
  have := hm.w2
  constructor <;> omega
end
end Go.Proofs.Ytafdagjdpnaddaa
