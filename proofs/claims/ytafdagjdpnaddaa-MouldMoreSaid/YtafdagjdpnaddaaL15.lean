/- MouldMore: the walk. -/
import Derived.Test.YtafdagjdpnaddaaW35
import Derived.Test.YtafdagjdpnaddaaAW
import Derived.Deep.AppendLies
namespace Go.Proofs.Ytafdagjdpnaddaa
open Go.RowKit
/-- How many of the first toppings are not later than n. -/
def leadN : List Int → Int → Nat
  | [], _ => 0
  | t :: l, n => if t ≤ n then leadN l n + 1 else 0
theorem lead_le (n : Int) : ∀ l : List Int, leadN l n ≤ l.length
  | [] => Nat.le_refl _
  | t :: l => by
    have := lead_le n l
    unfold leadN
    split <;> simp <;> omega
theorem lead_lt (n : Int) : ∀ (l : List Int) (j : Nat), j < leadN l n → l.getD j 0 ≤ n
  | [], j, h => by simp [leadN] at h
  | t :: l, j, h => by
    unfold leadN at h
    split at h
    · rename_i ht
      cases j with
      | zero => simpa using ht
      | succ j => simpa using lead_lt n l j (by omega)
    · omega
theorem lead_at (n : Int) : ∀ l : List Int, leadN l n < l.length → n < l.getD (leadN l n) 0
  | [], h => by simp at h
  | t :: l, h => by
    unfold leadN at h ⊢
    by_cases ht : t ≤ n
    · rw [if_pos ht] at h ⊢
      have := lead_at n l (by simpa using h)
      simpa using this
    · rw [if_neg ht]
      simp
      omega
def moreTo (plan : List Int) (n : Int) (q i : Nat) : List Int := if i ≤ q then plan.take i else plan.take q ++ n :: (plan.take i).drop q
theorem take_snoc {l : List Int} {i : Nat} (h : i < l.length) : l.take (i + 1) = l.take i ++ [l.getD i 0] := by
  rw [List.take_succ_eq_append_getElem h]
  simp [List.getD, h]
theorem more_lt {plan : List Int} {n : Int} {q i : Nat} (h : i < q) (hi : i < plan.length) : moreTo plan n q (i + 1) = moreTo plan n q i ++ [plan.getD i 0] := by
  unfold moreTo
  rw [if_pos (by omega), if_pos (by omega), take_snoc hi]
theorem more_at {plan : List Int} {n : Int} {q : Nat} (hi : q < plan.length) : moreTo plan n q (q + 1) = moreTo plan n q q ++ [n] ++ [plan.getD q 0] := by
  unfold moreTo
  rw [if_neg (by omega), if_pos (Nat.le_refl _), take_snoc hi, List.drop_append_of_le_length (by simp; omega), List.drop_of_length_le (by simp; omega)]
  simp
theorem more_gt {plan : List Int} {n : Int} {q i : Nat} (h : q < i) (hi : i < plan.length) : moreTo plan n q (i + 1) = moreTo plan n q i ++ [plan.getD i 0] := by
  unfold moreTo
  rw [if_neg (by omega), if_neg (by omega), take_snoc hi, List.drop_append_of_le_length (by simp; omega)]
  simp
theorem more_len {plan : List Int} {n : Int} {q i : Nat} (hi : i ≤ plan.length) (hq : q ≤ plan.length) : (moreTo plan n q i).length = if i ≤ q then i else i + 1 := by
  unfold moreTo
  split <;> simp <;> omega
theorem ownsRow.hk {w w' : World} {base n sz g : Nat} {e : TypeId} {v : Value} {xs : List Value} (h : w.ownsRow base e sz v n xs) (hk : ∀ k, k ≠ g → w'.heap[k]? = w.heap[k]?) (hne : v.ownBlock ≠ some g) : w'.ownsRow base e sz v n xs := by
  refine ⟨h.1, ?_⟩
  rcases h.2 with h0 | ⟨g1, cap, cur, rfl, h1, h2, h3⟩
  · exact .inl h0
  · exact .inr ⟨g1, cap, cur, rfl, h1, (hk g1 (fun e => hne (by rw [e]; rfl))).trans h2, h3⟩
theorem Bs.hk {w w1 w' : World} {l : List (Nat × Obj)} {g : Nat} (h : Bs w l w1) (hb : Below w.heap.size w w') (hk : ∀ k, k ≠ g → w'.heap[k]? = w1.heap[k]?) (hne : ∀ p ∈ l, p.1 ≠ g) : Bs w l w' :=
  ⟨fun p hp => (hk p.1 (hne p hp)).trans (h.get' p hp), h.inc, h.ge, hb⟩
theorem later_in {w W w' : World} {g L c kk : Nat} {cur : Array Value} {plan : List Int} {v : Int} (h : Bs w [(g, .cells (cur.setIfInBounds kk (.int .i64 v)) 3)] w') (h0 : Bs w [(g, .cells cur 3)] W) (hk : kk < cur.size) (hc : ∀ i, i < plan.length → W.cell? ⟨g, 0 + i, none⟩ = some (.int .i64 (plan.getD i 0))) (hL : plan.length = L) (h40 : L ≤ 40) :
    IntsIn .i64 w'.heap.size w' (.slice (some ⟨g, 0, none⟩) L c) (plan.set kk v) := by
  refine ⟨some ⟨g, 0, none⟩, c, by rw [List.length_set, hL], by rw [List.length_set]; omega, .inr ⟨g, 0, rfl, h.lt 0 rfl, fun i hi => ?_⟩⟩
  rw [List.length_set] at hi
  rw [h.cell 0 rfl]
  have h1 := hc i hi
  rw [h0.cell 0 rfl] at h1
  rw [Nat.zero_add] at h1 ⊢
  by_cases he : kk = i
  · subst he
    simp [hk, List.getD, hi]
  · simp only [List.getD_eq_getElem?_getD] at h1 ⊢
    rw [Array.getElem?_setIfInBounds_ne he, List.getElem?_set_ne he]
    exact h1
def finL (plan : List Int) (n : Int) : List Int := plan.take (leadN plan n) ++ n :: plan.drop (leadN plan n)
theorem fin_hol {m : Mou} (hm : Valid m) {when : List Int} (hl : (when.length : Int) = m.rings) (plan : List Int) (n : Int) : holV m when (finL plan n) ≤ holV m when plan := by
  unfold holV pourL
  have h := pourF_more (F := fall m when) (fill := m.fill) (p := 0) (by have := hm.f1; omega) (a := plan.take (leadN plan n)) (b := plan.drop (leadN plan n)) (n := n) (pourF_step (fall_nonneg hm hl n) (fun t ht => by
    obtain ⟨j, hj, rfl⟩ := List.mem_iff_getElem.1 ht
    have hj' : j < leadN plan n := by rw [List.length_take] at hj; omega
    have := lead_lt n plan j hj'
    have hjl : j < plan.length := by have := lead_le n plan; omega
    refine fall_grows hm hl ?_
    simpa [List.getD, hjl] using this))
  rw [List.take_append_drop] at h
  unfold finL
  omega
theorem later_hol {m : Mou} (hm : Valid m) {when : List Int} (hl : (when.length : Int) = m.rings) (plan : List Int) (k : Nat) {d : Int} (hd : 0 ≤ d) : holV m when (plan.set k (plan.getD k 0 + d)) ≤ holV m when plan := by
  unfold holV pourL
  have := pourF_le (F := fall m when) (G := fall m when) (fill := m.fill) (a := plan) (b := plan.set k (plan.getD k 0 + d)) (p := 0) (q := 0) (Int.le_refl _) (by simp) (fun i hi => by
    refine fall_grows hm hl ?_
    by_cases h : k = i
    · subst h
      simp [List.getD, hi]
      omega
    · simp [List.getD, h])
  omega
/-- Two rows of their own, amid a statement that makes both longer. -/
structure MoW (W0 : World) (x : Value) (c1 : Value) (k1 : Nat) (l1 : List Value) (c2 : Value) (k2 : Nat) (l2 : List Value) (d5 d6 d12 d13 : Bool) (ya yb : Value) (w : World) : Prop where
  low : Below W0.heap.size W0 w
  hs : W0.heap.size ≤ w.heap.size
  r1 : w.ownsRow W0.heap.size 3 1 c1 k1 l1
  r2 : w.ownsRow W0.heap.size 3 1 c2 k2 l2
  ne : ∀ g, c1.ownBlock = some g → c2.ownBlock ≠ some g
  s1 : d5 = true → d6 = false → ∃ b, ya = .slice (some ⟨b, 0, none⟩) 1 1 ∧ w.heap[b]? = some (.cells [x].toArray 3) ∧ c2.ownBlock ≠ some b
  s2 : d12 = true → d13 = false → ∃ b, yb = .slice (some ⟨b, 0, none⟩) 1 1 ∧ w.heap[b]? = some (.cells [x].toArray 3) ∧ c1.ownBlock ≠ some b
section
variable {W0 w w' : World} {x c1 c2 ya yb : Value} {k1 k2 : Nat} {l1 l2 : List Value} {d5 d6 d12 d13 : Bool}
theorem MoW.next (h : MoW W0 x c1 k1 l1 c2 k2 l2 d5 d6 d12 d13 ya yb w) (hb : Below w.heap.size w w') : MoW W0 x c1 k1 l1 c2 k2 l2 d5 d6 d12 d13 ya yb w' :=
  ⟨h.low.trans (hb.mono h.hs), Nat.le_trans h.hs hb.size, ownsRow.below h.r1 hb, ownsRow.below h.r2 hb, h.ne, fun e1 e2 => (by obtain ⟨b, h1, h2, h3⟩ := h.s1 e1 e2; exact ⟨b, h1, block_keep h2 hb, h3⟩), fun e1 e2 => (by obtain ⟨b, h1, h2, h3⟩ := h.s2 e1 e2; exact ⟨b, h1, block_keep h2 hb, h3⟩)⟩
theorem MoW.puts1 (h : MoW W0 x c1 k1 l1 c2 k2 l2 d5 d6 d12 d13 ya yb w) : MoW W0 x c1 k1 l1 c2 k2 l2 true d6 d12 d13 (.slice (some ⟨w.heap.size, 0, none⟩) 1 1) yb (w.alloc (.cells [x].toArray 3)) := by
  have h' := h.next ((Below.refl w.heap.size w).alloc (Nat.le_refl _) (.cells [x].toArray 3))
  exact ⟨h'.low, h'.hs, h'.r1, h'.r2, h'.ne, fun _ _ => ⟨w.heap.size, rfl, heap_alloc_new _ _, fun e => by have := (World.ownsRow.lt h.r2 _ e).2; omega⟩, h'.s2⟩
theorem MoW.puts2 (h : MoW W0 x c1 k1 l1 c2 k2 l2 d5 d6 d12 d13 ya yb w) : MoW W0 x c1 k1 l1 c2 k2 l2 d5 d6 true d13 ya (.slice (some ⟨w.heap.size, 0, none⟩) 1 1) (w.alloc (.cells [x].toArray 3)) := by
  have h' := h.next ((Below.refl w.heap.size w).alloc (Nat.le_refl _) (.cells [x].toArray 3))
  exact ⟨h'.low, h'.hs, h'.r1, h'.r2, h'.ne, h'.s1, fun _ _ => ⟨w.heap.size, rfl, heap_alloc_new _ _, fun e => by have := (World.ownsRow.lt h.r1 _ e).2; omega⟩⟩
theorem ownsRow.grownP {base n sz : Nat} {e : TypeId} {v : Value} {xs : List Value} {row : Option Nat} (h : w.ownsRow base e sz v n xs) (hg : w.grownBy w' row) (hne : ∀ g, v.ownBlock = some g → row ≠ some g) : w'.ownsRow base e sz v n xs := by
  refine ⟨h.1, ?_⟩
  rcases h.2 with h0 | ⟨g, cap, cur, rfl, h1, h2, h3⟩
  · exact .inl h0
  · exact .inr ⟨g, cap, cur, rfl, h1, (hg.block g (block_lt h2) (fun e => hne g rfl e.symm)).trans h2, h3⟩
theorem MoW.gotr1 (h : MoW W0 x c1 k1 l1 c2 k2 l2 d5 d6 d12 d13 ya yb w) {g cap : Nat} {z : Value} (ho : w'.ownsRow W0.heap.size 3 1 (.slice (some ⟨g, 0, none⟩) (k1 + 1) cap) (k1 + 1) (l1 ++ [z])) (hg : w.grownBy w' c1.ownBlock) (hgg : c1.ownBlock = some g ∨ g = w.heap.size) :
    MoW W0 x (.slice (some ⟨g, 0, none⟩) (k1 + 1) cap) (k1 + 1) (l1 ++ [z]) c2 k2 l2 d5 true d12 d13 ya yb w' := by
  have l1' := World.ownsRow.lt h.r1
  have l2' := World.ownsRow.lt h.r2
  refine ⟨h.low.grown hg h.hs (fun k e => (l1' k e).1), Nat.le_trans h.hs hg.size, ho, ownsRow.grownP h.r2 hg (fun g2 e2 e1 => h.ne g2 e1 e2), fun g' e e2 => ?_, fun _ e => (by cases e), fun e1 e2 => ?_⟩
  · have e' : g = g' := by simpa [Value.ownBlock] using e
    subst e'
    rcases hgg with h1 | h1
    · exact h.ne g h1 e2
    · have := (l2' g e2).2; omega
  · obtain ⟨b, h1, h2, h3⟩ := h.s2 e1 e2
    refine ⟨b, h1, (hg.block b (block_lt h2) (fun e => h3 e.symm)).trans h2, fun e => ?_⟩
    have e' : g = b := by simpa [Value.ownBlock] using e
    subst e'
    rcases hgg with h4 | h4
    · exact h3 h4
    · have := block_lt h2; omega
theorem MoW.gotr2 (h : MoW W0 x c1 k1 l1 c2 k2 l2 d5 d6 d12 d13 ya yb w) {g cap : Nat} {z : Value} (ho : w'.ownsRow W0.heap.size 3 1 (.slice (some ⟨g, 0, none⟩) (k2 + 1) cap) (k2 + 1) (l2 ++ [z])) (hg : w.grownBy w' c2.ownBlock) (hgg : c2.ownBlock = some g ∨ g = w.heap.size) :
    MoW W0 x c1 k1 l1 (.slice (some ⟨g, 0, none⟩) (k2 + 1) cap) (k2 + 1) (l2 ++ [z]) d5 d6 d12 true ya yb w' := by
  have l1' := World.ownsRow.lt h.r1
  have l2' := World.ownsRow.lt h.r2
  refine ⟨h.low.grown hg h.hs (fun k e => (l2' k e).1), Nat.le_trans h.hs hg.size, ownsRow.grownP h.r1 hg (fun g2 e2 e1 => h.ne g2 e2 e1), ho, fun g' e e2 => ?_, fun e1 e2 => ?_, fun _ e => (by cases e)⟩
  · have e' : g = g' := by simpa [Value.ownBlock] using e2
    subst e'
    rcases hgg with h1 | h1
    · exact h.ne g e h1
    · have := (l1' g e).2; omega
  · obtain ⟨b, h1, h2, h3⟩ := h.s1 e1 e2
    refine ⟨b, h1, (hg.block b (block_lt h2) (fun e => h3 e.symm)).trans h2, fun e => ?_⟩
    have e' : g = b := by simpa [Value.ownBlock] using e
    subst e'
    rcases hgg with h4 | h4
    · exact h3 h4
    · have := block_lt h2; omega
end
set_option maxRecDepth 100000 in
set_option maxHeartbeats 64000000 in
theorem more_law (m : Mou) (pv : Value) (plan : List Int) (x0 x1 x2 : Int) (h00 : 0 ≤ x0) (h01 : x0 ≤ 65535) (h10 : 0 ≤ x1) (h11 : x1 ≤ 65535) (h20 : 0 ≤ x2) (h21 : x2 ≤ 65535) (w : World) (hp : IntsIn .i64 w.heap.size w pv plan) :
    Calls Try.prog 15 #[.agg #[.int .i64 m.rings, .int .i64 m.give, .int .i64 m.pl, .int .i64 m.ph, .int .i64 m.wl, .int .i64 m.wh, .int .i64 m.set, .int .i64 m.shrink, .int .i64 m.skin, .int .i64 m.fill, .int .i64 m.gap, .int .i64 m.deep], pv, .agg #[.int .u16 x0, .int .u16 x1, .int .u16 x2]] w (fun e w' => e = .returned (.bool true) ∧ Below w.heap.size w w') := by
  have C0 := Lib.hid (((Bs.nil w).push _ rfl (.cells #[.int .i64 m.rings, .int .i64 m.give, .int .i64 m.pl, .int .i64 m.ph, .int .i64 m.wl, .int .i64 m.wh, .int .i64 m.set, .int .i64 m.shrink, .int .i64 m.skin, .int .i64 m.fill, .int .i64 m.gap, .int .i64 m.deep] 25)).push (w.heap.size + 1) (by simp) (.cells #[.int .u16 x0, .int .u16 x1, .int .u16 x2] 77))
  have HP := Lib.hid hp
  have HA : ∀ (v : Value) (l : List Int) (w : World), IntsIn .i64 w.heap.size w v l → Hid (Calls Try.prog 31 #[.agg #[.int .i64 m.rings, .int .i64 m.give, .int .i64 m.pl, .int .i64 m.ph, .int .i64 m.wl, .int .i64 m.wh, .int .i64 m.set, .int .i64 m.shrink, .int .i64 m.skin, .int .i64 m.fill, .int .i64 m.gap, .int .i64 m.deep], v] w (RetHol (hollowV m l) w)) := fun v l w h => hollow_any m l v w h
  have HA0 := fun w h => HA pv plan w h
  by_cases hE : hollowE m plan = 0
  rotate_left
  · have hv : hollowV m plan = ((0, 0), (0, 0), hollowE m plan) := by unfold hollowV; rw [if_pos hE]
    rw [hv] at HA0
    have hz : (hollowE m plan != 0) = true := by simpa using hE
    clear hE hv HA
    generalize hollowE m plan = E at *
    clear hp
    go_enter Try.func15, Try.ntmps15
    go_wp2_with (refine wpList_load_bs rfl 25 _ rfl C0.out 0 w.heap.size #[.int .i64 m.rings, .int .i64 m.give, .int .i64 m.pl, .int .i64 m.ph, .int .i64 m.wl, .int .i64 m.wh, .int .i64 m.set, .int .i64 m.shrink, .int .i64 m.skin, .int .i64 m.fill, .int .i64 m.gap, .int .i64 m.deep] 25 rfl rfl _ Try.underlying25 rfl info25 ?_)
    refine (HA0 _ ((HP.out.below C0.out.bel).mono C0.out.bel.size)).out.mono ?_
    rintro e w1 ⟨rfl, hb⟩
    have C1 := Lib.hid ((C0.out.call hb).push w1.heap.size rfl (.cells #[.int .i64 0, .int .i64 0, .int .i64 0, .int .i64 0] 45))
    have c2 := C1.out.cell 2 rfl
    clear hb C0
    go_wp2_with fail
    refine (awake_any _).mono ?_
    rintro e w4 ⟨rfl, hb⟩
    have HBel := Lib.hid (C1.out.call hb).bel
    clear hb C1 c2
    go_wp2
    go_ret
    exact ⟨rfl, HBel.out⟩
  obtain ⟨hck, hpo, hnev, hpb⟩ := hollowE_ok hE
  have HM := Lib.hid (valid_of_check hck)
  have hv : hollowV m plan = ((holV m (endsL m false) plan, holV m (endsL m true) plan), (pourL (fall m (endsL m true)) m.fill plan, pourL (fall m (endsL m false)) m.fill plan), 0) := by unfold hollowV; rw [if_neg (by simp [hE])]
  rw [hv] at HA0
  clear hv
  obtain ⟨ap, cp, rfl, -, hcp⟩ := hp
  obtain ⟨L, hL⟩ : ∃ L, plan.length = L := ⟨_, rfl⟩
  have HL := Lib.hid hL
  have hL40 : L ≤ 40 := by have := hpo.len; omega
  rw [hL] at HP HA0 hcp ⊢
  have KPL := Lib.hid hcp
  have HR0 : Hid (∀ i, i < L → 0 ≤ plan.getD i 0 ∧ plan.getD i 0 ≤ 600) := fun i hi => hpo.r0 i (by omega)
  clear hcp hL hck hnev hpb hE hpo
  have hn0 : 0 ≤ x0 % 601 := by omega
  have hn6 : x0 % 601 ≤ 600 := by omega
  have hd0 : 0 ≤ x2 % 30 := by omega
  have hd6 : x2 % 30 ≤ 29 := by omega
  have HRES : Hid (∀ l : List Int, (holV m (endsL m false) l ≤ holV m (endsL m false) plan ∧ holV m (endsL m true) l ≤ holV m (endsL m true) plan) → (hollowV m l).2.2 = 0 → ¬ holV m (endsL m false) plan < (hollowV m l).1.1 ∧ ¬ holV m (endsL m true) plan < (hollowV m l).1.2) := fun l h he => by
    have hl : hollowE m l = 0 := by
      by_cases h2 : hollowE m l = 0
      · exact h2
      · unfold hollowV at he
        rw [if_pos h2] at he
        exact he
    unfold hollowV
    rw [if_neg (by simp [hl])]
    simp only
    omega
  obtain ⟨i0, hi0, hz0, hz1, hz2⟩ := info3'
  have HLE1 := Lib.hid (fun n => fin_hol HM.out (endsL_lenI HM.out false) plan n)
  have HLE2 := Lib.hid (fun n => fin_hol HM.out (endsL_lenI HM.out true) plan n)
  have HLE3 := Lib.hid (fun k (d : Int) (hd : 0 ≤ d) => later_hol HM.out (endsL_lenI HM.out false) plan k hd)
  have HLE4 := Lib.hid (fun k (d : Int) (hd : 0 ≤ d) => later_hol HM.out (endsL_lenI HM.out true) plan k hd)
  generalize hga1 : holV m (endsL m false) plan = a1 at *
  have HGa1 := Lib.hid hga1
  clear hga1
  generalize hga2 : holV m (endsL m true) plan = a2 at *
  have HGa2 := Lib.hid hga2
  clear hga2
  generalize pourL (fall m (endsL m true)) m.fill plan = a3 at *
  generalize pourL (fall m (endsL m false)) m.fill plan = a4 at *
  go_enter Try.func15, Try.ntmps15
  go_wp2_with (refine wpList_load_bs rfl 25 _ rfl C0.out 0 w.heap.size #[.int .i64 m.rings, .int .i64 m.give, .int .i64 m.pl, .int .i64 m.ph, .int .i64 m.wl, .int .i64 m.wh, .int .i64 m.set, .int .i64 m.shrink, .int .i64 m.skin, .int .i64 m.fill, .int .i64 m.gap, .int .i64 m.deep] 25 rfl rfl _ Try.underlying25 rfl info25 ?_)
  refine (HA0 _ ((HP.out.below C0.out.bel).mono C0.out.bel.size)).out.mono ?_
  rintro e w1 ⟨rfl, hb⟩
  have C1 := Lib.hid ((C0.out.call hb).push w1.heap.size rfl (.cells #[.int .i64 a1, .int .i64 a2, .int .i64 a3, .int .i64 a4] 45))
  have c1 := C1.out.cell 1 rfl
  have c2 := C1.out.cell 2 rfl
  clear hb C0 HA0
  go_wp2_with fail
  clear c1 c2
  generalize w1.alloc (.cells #[.int .i64 a1, .int .i64 a2, .int .i64 a3, .int .i64 a4] 45) = W0 at *
  generalize x0 % 601 = n at *
  obtain ⟨q, hq⟩ : ∃ q, leadN plan n = q := ⟨_, rfl⟩
  have HQ := Lib.hid hq
  have hqL : q ≤ L := by have := lead_le n plan; have := HL.out; omega
  have HQ1 : Hid (∀ j, j < q → plan.getD j 0 ≤ n) := fun j hj => lead_lt n plan j (by omega)
  have HQ2 : Hid (q < L → n < plan.getD q 0) := fun h => by have := lead_at n plan (by have := HL.out; omega); rw [hq] at this; exact this
  clear hq
  go_loopw [10, 11, 12, 13] (fun v10 v11 v12 v13 wr => ∃ (i n1 : Nat) (b1 : Option Addr) (c1 : Nat) (b2 : Option Addr) (c2 : Nat), v10 = .slice b1 n1 c1 ∧ v11 = .slice b2 i c2 ∧ v12 = .bool (decide (q < i)) ∧ v13 = .int .i64 i ∧ i ≤ L ∧ n1 = (moreTo plan n q i).length ∧ MoW W0 (.int .i64 0) (.slice b1 n1 c1) n1 ((moreTo plan n q i).map (Value.int .i64)) (.slice b2 i c2) i ((plan.take i).map (Value.int .i64)) false false false false undef undef wr) (fun _ _ _ v13 _ => L - (intOf v13).toNat)
  case atStart => exact ⟨0, 0, none, 0, none, 0, rfl, rfl, by simp, rfl, by omega, by unfold moreTo; simp, Below.refl _ _, Nat.le_refl _, by unfold moreTo; simpa using World.ownsRow_nil _ _ 3 1, by simpa using World.ownsRow_nil _ _ 3 1, fun g e => by simp [Value.ownBlock] at e, fun h => (by cases h), fun h => (by cases h)⟩
  case round =>
    obtain ⟨i, n1, b1, c1, b2, c2, rfl, rfl, rfl, rfl, hi, hn1, hMO⟩ := hrel
    have HMO0 := Lib.hid hMO
    have HN1 := Lib.hid hn1
    clear hMO hn1
    by_cases hiL : i < L
    · have hii : (i : Int) < (L : Int) := by omega
      obtain ⟨bp, op, rfl, hbp0, hcp⟩ := KPL.out.resolve_left (by intro h; have := HL.out; rw [h] at this; simp at this; omega)
      have hbp : bp < W0.heap.size := Nat.lt_of_lt_of_le hbp0 (by have := C1.out.bel.size; exact this)
      have KP : Hid (W0.cell? ⟨bp, op + i, none⟩ = some (.int .i64 (plan.getD i 0))) := (C1.out.bel.cell (p := ⟨bp, op + i, none⟩) hbp0).trans (hcp i hiL)
      have ck0 := (HMO0.out.low.cell (p := ⟨bp, op + i, none⟩) hbp).trans KP.out
      have HTAKE := Lib.hid (take_snoc (l := plan) (i := i) (by have := HL.out; omega))
      have hnb : n1 ≤ 41 := by have h := more_len (plan := plan) (n := n) (q := q) (i := i) (by have := HL.out; omega) (by have := HL.out; omega); have h2 := HN1.out; rw [h] at h2; split at h2 <;> omega
      clear hcp
      rcases Nat.lt_trichotomy i q with hiq | hiq | hiq
      · have HMORE := Lib.hid (more_lt (n := n) hiq (plan := plan) (by have := HL.out; omega))
        have HLEN1 : Hid ((moreTo plan n q (i + 1)).length = n1 + 1) := by unfold Hid; rw [HMORE.out, List.length_append, ← HN1.out]; rfl
        have hdq : decide (q < i) = false := decide_eq_false (by omega)
        have HPUT : Hid (decide (q < i + 1) = false) := decide_eq_false (by omega)
        have hle := HQ1.out i hiq
        have hdx : decide (n < plan.getD i 0) = false := decide_eq_false (by omega)
        clear hle hiq
        generalize plan.getD i 0 = x at *
        have HMO : Hid (MoW W0 (.int .i64 x) (.slice b1 n1 c1) n1 ((moreTo plan n q i).map (Value.int .i64)) (.slice b2 i c2) i ((plan.take i).map (Value.int .i64)) false false false false undef undef wr) := ⟨HMO0.out.low, HMO0.out.hs, HMO0.out.r1, HMO0.out.r2, HMO0.out.ne, fun h => (by cases h), fun h => (by cases h)⟩
        clear HMO0
        rw [hdq]
        go_wp2_with fail
        clear ck0
        refine wp_region_inv1 (by kernel_rfl) (by kernel_rfl) [62, 63, 69, 70, 10, 11] (fun D y w' => MoW W0 (.int .i64 x) (if D 6 = true then y 63 else .slice b1 n1 c1) (if D 6 = true then n1 + 1 else n1) (if D 6 = true then ((moreTo plan n q i).map (Value.int .i64)) ++ [.int .i64 x] else ((moreTo plan n q i).map (Value.int .i64))) (if D 13 = true then y 70 else .slice b2 i c2) (if D 13 = true then i + 1 else i) (if D 13 = true then ((plan.take i).map (Value.int .i64)) ++ [.int .i64 x] else ((plan.take i).map (Value.int .i64))) (D 5) (D 6) (D 12) (D 13) (y 62) (y 69) w' ∧ (D 14 = false → y 10 = .slice b1 n1 c1) ∧ (D 14 = true → y 10 = y 63) ∧ (D 15 = false → y 11 = .slice b2 i c2) ∧ (D 15 = true → y 11 = y 70)) ⟨⟨HMO.out.low.drew, HMO.out.hs, ownsRow.below HMO.out.r1 (Below.refl _ _).drew, ownsRow.below HMO.out.r2 (Below.refl _ _).drew, HMO.out.ne, fun h => (by cases h), fun h => (by cases h)⟩, fun _ => rfl, fun h => (by cases h), fun _ => rfl, fun h => (by cases h)⟩ ?FA ?hFA ?_
        case hFA =>
          intro y
          simp only [fill, List.foldl, Act.put, List.setIfInBounds_toArray, List.set]
          exact rfl
        apply obl_det
        case hrun =>
          intro D y wz hW hD R hR
          refine wpList_mv rfl _ rfl (.slice b1 n1 c1) (hW.2.1 (hD.post _ 14 rfl (by kernel_rfl))) ?_
          exact hR _ hW
        case hnp => rfl
        case hv => first | exact ⟨_, fun _ => rfl⟩ | exact ⟨undef, fun _ => rfl⟩
        apply obl_det
        case hrun =>
          intro D y wz hW hD R hR
          have HRR := Lib.hid hR
          clear hR
          have HW := Lib.hid hW
          clear hW hD
          go_wp2
          exact HRR.out _ HW.out
        case hnp => rfl
        case hv => first | exact ⟨_, fun _ => rfl⟩ | exact ⟨undef, fun _ => rfl⟩
        apply obl_det
        case hrun =>
          intro D y wz hW hD R hR
          have HRR := Lib.hid hR
          clear hR
          have HW := Lib.hid hW
          clear hW hD
          go_wp2
          exact HRR.out _ HW.out
        case hnp => rfl
        case hv => first | exact ⟨_, fun _ => rfl⟩ | exact ⟨undef, fun _ => rfl⟩
        apply obl_det
        case hrun =>
          intro D y wz hW hD R hR
          have HRR := Lib.hid hR
          clear hR
          have HW := Lib.hid hW
          clear hW hD
          go_wp2
          exact HRR.out _ HW.out
        case hnp => rfl
        case hv => first | exact ⟨_, fun _ => rfl⟩ | exact ⟨undef, fun _ => rfl⟩
        apply obl_det
        case hrun =>
          intro D y wz hW hD R hR
          have HRR := Lib.hid hR
          clear hR
          have HW := Lib.hid hW
          have ck := (hW.1.low.cell (p := ⟨bp, op + i, none⟩) hbp).trans KP.out
          clear hW hD
          go_wp2
          exact HRR.out _ HW.out
        case hnp => rfl
        case hv => first | exact ⟨_, fun _ => rfl⟩ | exact ⟨undef, fun _ => rfl⟩
        apply obl_priv 62
        case hd => rfl
        case hp => rfl
        case hrun =>
          intro D y wz hW hD R hR
          have HRR := Lib.hid hR
          clear hR
          have ha : D 6 = false := hD.post _ 6 rfl (by kernel_rfl)
          have HW := Lib.hid hW
          have HA := Lib.hid ha
          clear hW hD ha
          go_wp2_with fail
          refine HRR.out _ _ ⟨?_, HW.out.2⟩
          exact HW.out.1.puts1
        apply obl_priv 63
        case hd => rfl
        case hp => rfl
        case hrun =>
          intro D y wz hW hD R hR
          have HRR := Lib.hid hR
          clear hR
          have ha : D 6 = false := hD.not
          have hb : D 5 = true := hD.pre _ 5 rfl (by kernel_rfl)
          have HR2 := Lib.hid hW.2
          have HX := Lib.hid (hD.post _ 14 rfl (by kernel_rfl))
          have hM := hW.1
          rw [ha] at hM
          simp only [Bool.false_eq_true, if_false] at hM
          obtain ⟨g0, e0, hg0, hne0⟩ := hM.s1 hb rfl
          have ho := hM.r1
          have hs := hM.hs
          have HM := Lib.hid hM
          have HG0 := Lib.hid hg0
          have E0 := Lib.hid e0
          have HAA := Lib.hid ha
          clear hW hD ha hb hM hg0 e0
          refine wpList_append_lies _ rfl _ _ 26 rfl W0.heap.size 3 i0 (.int .i64 0) 1 8 Try.underlying26 hi0 hz0 hz1 hz2 rfl (by decide) _ _ _ rfl ho ⟨g0, 0, none⟩ 1 1 [.int .i64 x] E0.out rfl (cell_news _ _ _ _ HG0.out) (one_int _) (by omega) (by unfold maxLen; omega) (by omega) hs _ rfl ?_
          intro g cap w12 hown12 hgrow12 hgg _
          have HN := Lib.hid (HM.out.gotr1 hown12 hgrow12 hgg)
          clear hown12 hgrow12 ho hgg
          go_wp2
          refine HRR.out (.slice (some ⟨g, 0, none⟩) (n1 + 1) cap) _ ⟨?_, ?_⟩
          · exact HN.out
          · exact ⟨HR2.out.1, fun h => (by have h2 : D 14 = true := h; rw [HX.out] at h2; cases h2), HR2.out.2.2⟩
        apply obl_det
        case hrun =>
          intro D y wz hW hD R hR
          refine wpList_mv rfl _ rfl (.slice b2 i c2) (hW.2.2.2.1 (hD.post _ 15 rfl (by kernel_rfl))) ?_
          exact hR _ hW
        case hnp => rfl
        case hv => first | exact ⟨_, fun _ => rfl⟩ | exact ⟨undef, fun _ => rfl⟩
        apply obl_det
        case hrun =>
          intro D y wz hW hD R hR
          have HRR := Lib.hid hR
          clear hR
          have HW := Lib.hid hW
          clear hW hD
          go_wp2
          exact HRR.out _ HW.out
        case hnp => rfl
        case hv => first | exact ⟨_, fun _ => rfl⟩ | exact ⟨undef, fun _ => rfl⟩
        apply obl_det
        case hrun =>
          intro D y wz hW hD R hR
          have HRR := Lib.hid hR
          clear hR
          have HW := Lib.hid hW
          clear hW hD
          go_wp2
          exact HRR.out _ HW.out
        case hnp => rfl
        case hv => first | exact ⟨_, fun _ => rfl⟩ | exact ⟨undef, fun _ => rfl⟩
        apply obl_det
        case hrun =>
          intro D y wz hW hD R hR
          have HRR := Lib.hid hR
          clear hR
          have HW := Lib.hid hW
          clear hW hD
          go_wp2
          exact HRR.out _ HW.out
        case hnp => rfl
        case hv => first | exact ⟨_, fun _ => rfl⟩ | exact ⟨undef, fun _ => rfl⟩
        apply obl_det
        case hrun =>
          intro D y wz hW hD R hR
          have HRR := Lib.hid hR
          clear hR
          have HW := Lib.hid hW
          have ck := (hW.1.low.cell (p := ⟨bp, op + i, none⟩) hbp).trans KP.out
          clear hW hD
          go_wp2
          exact HRR.out _ HW.out
        case hnp => rfl
        case hv => first | exact ⟨_, fun _ => rfl⟩ | exact ⟨undef, fun _ => rfl⟩
        apply obl_priv 69
        case hd => rfl
        case hp => rfl
        case hrun =>
          intro D y wz hW hD R hR
          have HRR := Lib.hid hR
          clear hR
          have ha : D 13 = false := hD.post _ 13 rfl (by kernel_rfl)
          have HW := Lib.hid hW
          have HA := Lib.hid ha
          clear hW hD ha
          go_wp2_with fail
          refine HRR.out _ _ ⟨?_, HW.out.2⟩
          exact HW.out.1.puts2
        apply obl_priv 70
        case hd => rfl
        case hp => rfl
        case hrun =>
          intro D y wz hW hD R hR
          have HRR := Lib.hid hR
          clear hR
          have ha : D 13 = false := hD.not
          have hb : D 12 = true := hD.pre _ 12 rfl (by kernel_rfl)
          have HR2 := Lib.hid hW.2
          have HX := Lib.hid (hD.post _ 15 rfl (by kernel_rfl))
          have hM := hW.1
          rw [ha] at hM
          simp only [Bool.false_eq_true, if_false] at hM
          obtain ⟨g0, e0, hg0, hne0⟩ := hM.s2 hb rfl
          have ho := hM.r2
          have hs := hM.hs
          have HM := Lib.hid hM
          have HG0 := Lib.hid hg0
          have E0 := Lib.hid e0
          have HAA := Lib.hid ha
          clear hW hD ha hb hM hg0 e0
          refine wpList_append_lies _ rfl _ _ 26 rfl W0.heap.size 3 i0 (.int .i64 0) 1 8 Try.underlying26 hi0 hz0 hz1 hz2 rfl (by decide) _ _ _ rfl ho ⟨g0, 0, none⟩ 1 1 [.int .i64 x] E0.out rfl (cell_news _ _ _ _ HG0.out) (one_int _) (by omega) (by unfold maxLen; omega) (by omega) hs _ rfl ?_
          intro g cap w12 hown12 hgrow12 hgg _
          have HN := Lib.hid (HM.out.gotr2 hown12 hgrow12 hgg)
          clear hown12 hgrow12 ho hgg
          go_wp2
          refine HRR.out (.slice (some ⟨g, 0, none⟩) (i + 1) cap) _ ⟨?_, ?_⟩
          · exact HN.out
          · exact ⟨HR2.out.1, HR2.out.2.1, HR2.out.2.2.1, fun h => (by have h2 : D 15 = true := h; rw [HX.out] at h2; cases h2)⟩
        apply obl_priv 10
        case hd => rfl
        case hp => rfl
        case hrun =>
          intro D y wz hW hD R hR
          have HRR := Lib.hid hR
          clear hR
          refine wpList_as rfl _ rfl (y 63) rfl ?_
          refine HRR.out (y 63) _ ⟨hW.1, ?_⟩
          exact ⟨fun h => (by cases h), fun _ => rfl, hW.2.2.2⟩
        apply obl_priv 11
        case hd => rfl
        case hp => rfl
        case hrun =>
          intro D y wz hW hD R hR
          have HRR := Lib.hid hR
          clear hR
          refine wpList_as rfl _ rfl (y 70) rfl ?_
          refine HRR.out (y 70) _ ⟨hW.1, ?_⟩
          exact ⟨hW.2.1, hW.2.2.1, fun h => (by cases h), fun _ => rfl⟩
        apply obl_nil
        intro D y w8 hall hW
        have hM := hW.1
        rw [hall 5 (by decide), hall 6 (by decide), hall 12 (by decide), hall 13 (by decide)] at hM
        simp only [if_true] at hM
        have e10 := hW.2.2.1 (hall 14 (by decide))
        have e11 := hW.2.2.2.2 (hall 15 (by decide))
        rw [← e10, ← e11] at hM
        have HMN := Lib.hid hM
        clear hW hall hM e10 e11
        generalize y 10 = y10 at *
        generalize y 11 = y11 at *
        generalize y 62 = y62 at *
        generalize y 69 = y69 at *
        generalize y 63 = y63 at *
        generalize y 70 = y70 at *
        obtain ⟨b10, c10, rfl⟩ := ownsRow_slice HMN.out.r1
        obtain ⟨b11, c11, rfl⟩ := ownsRow_slice HMN.out.r2
        clear HMO
        go_wp2_with fail
        refine ⟨⟨i + 1, n1 + 1, b10, c10, b11, c11, rfl, rfl, by rw [HPUT.out], by push_cast; rfl, by omega, by rw [HLEN1.out], ?_⟩, ?_⟩
        · rw [HMORE.out, HTAKE.out]
          have h := HMN.out
          simp only [List.map_append, List.map_cons, List.map_nil] at h ⊢
          exact ⟨h.low, h.hs, h.r1, h.r2, h.ne, fun e => (by cases e), fun e => (by cases e)⟩
        · simp [intOf]
          omega

      · subst hiq
        have HMORE := Lib.hid (more_at (n := n) (plan := plan) (q := i) (by have := HL.out; omega))
        have HLEN1 : Hid ((moreTo plan n i (i + 1)).length = n1 + 1 + 1) := by unfold Hid; rw [HMORE.out, List.length_append, List.length_append, ← HN1.out]; rfl
        have hdq : decide (i < i) = false := decide_eq_false (by omega)
        have HPUT : Hid (decide (i < i + 1) = true) := decide_eq_true (by omega)
        have hle := HQ2.out hiL
        have hdx : decide (n < plan.getD i 0) = true := decide_eq_true hle
        clear hle
        generalize plan.getD i 0 = x at *
        rw [hdq]
        have hsz : W0.heap.size ≤ wr.heap.size := HMO0.out.hs
        have ck1 : (wr.alloc (.cells #[.int .i64 n] 3)).cell? ⟨bp, op + i, none⟩ = some (.int .i64 x) := (((Below.refl wr.heap.size wr).alloc (Nat.le_refl _) (.cells #[.int .i64 n] 3)).cell (p := ⟨bp, op + i, none⟩) (Nat.lt_of_lt_of_le hbp hsz)).trans ck0
        clear ck1
        go_wp2_with (at_builtin; refine wpList_append_lies _ rfl _ _ 26 rfl W0.heap.size 3 i0 (.int .i64 0) 1 8 Try.underlying26 hi0 hz0 hz1 hz2 rfl (by decide) (.slice b1 n1 c1) n1 _ rfl (HMO0.out.r1.alloc _) ⟨wr.heap.size, 0, none⟩ 1 1 [.int .i64 n] rfl rfl (cell_news _ _ _ _ (heap_alloc_new _ _)) (one_int _) (by omega) (by unfold maxLen; omega) (by omega) (by simp; omega) _ rfl ?_; intro g cap w12 hown12 hgrow12 hgg12 _; have HN12 := Lib.hid ((HMO0.out.next ((Below.refl wr.heap.size wr).alloc (Nat.le_refl _) (.cells #[.int .i64 n] 3))).gotr1 hown12 hgrow12 hgg12); clear hown12 hgrow12 hgg12)
        have HMO : Hid (MoW W0 (.int .i64 x) (.slice (some ⟨g, 0, none⟩) (n1 + 1) cap) (n1 + 1) ((moreTo plan n i i).map (Value.int .i64) ++ [.int .i64 n]) (.slice b2 i c2) i ((plan.take i).map (Value.int .i64)) false false false false undef undef w12) := ⟨HN12.out.low, HN12.out.hs, HN12.out.r1, HN12.out.r2, HN12.out.ne, fun h => (by cases h), fun h => (by cases h)⟩
        clear HMO0 HN12 ck0
        refine wp_region_inv1 (by kernel_rfl) (by kernel_rfl) [62, 63, 69, 70, 10, 11] (fun D y w' => MoW W0 (.int .i64 x) (if D 6 = true then y 63 else .slice (some ⟨g, 0, none⟩) (n1 + 1) cap) (if D 6 = true then (n1 + 1) + 1 else (n1 + 1)) (if D 6 = true then ((moreTo plan n i i).map (Value.int .i64) ++ [.int .i64 n]) ++ [.int .i64 x] else ((moreTo plan n i i).map (Value.int .i64) ++ [.int .i64 n])) (if D 13 = true then y 70 else .slice b2 i c2) (if D 13 = true then i + 1 else i) (if D 13 = true then ((plan.take i).map (Value.int .i64)) ++ [.int .i64 x] else ((plan.take i).map (Value.int .i64))) (D 5) (D 6) (D 12) (D 13) (y 62) (y 69) w' ∧ (D 14 = false → y 10 = .slice (some ⟨g, 0, none⟩) (n1 + 1) cap) ∧ (D 14 = true → y 10 = y 63) ∧ (D 15 = false → y 11 = .slice b2 i c2) ∧ (D 15 = true → y 11 = y 70)) ⟨⟨HMO.out.low.drew, HMO.out.hs, ownsRow.below HMO.out.r1 (Below.refl _ _).drew, ownsRow.below HMO.out.r2 (Below.refl _ _).drew, HMO.out.ne, fun h => (by cases h), fun h => (by cases h)⟩, fun _ => rfl, fun h => (by cases h), fun _ => rfl, fun h => (by cases h)⟩ ?FB ?hFB ?_
        case hFB =>
          intro y
          simp only [fill, List.foldl, Act.put, List.setIfInBounds_toArray, List.set]
          exact rfl
        apply obl_det
        case hrun =>
          intro D y wz hW hD R hR
          refine wpList_mv rfl _ rfl (.slice (some ⟨g, 0, none⟩) (n1 + 1) cap) (hW.2.1 (hD.post _ 14 rfl (by kernel_rfl))) ?_
          exact hR _ hW
        case hnp => rfl
        case hv => first | exact ⟨_, fun _ => rfl⟩ | exact ⟨undef, fun _ => rfl⟩
        apply obl_det
        case hrun =>
          intro D y wz hW hD R hR
          have HRR := Lib.hid hR
          clear hR
          have HW := Lib.hid hW
          clear hW hD
          go_wp2
          exact HRR.out _ HW.out
        case hnp => rfl
        case hv => first | exact ⟨_, fun _ => rfl⟩ | exact ⟨undef, fun _ => rfl⟩
        apply obl_det
        case hrun =>
          intro D y wz hW hD R hR
          have HRR := Lib.hid hR
          clear hR
          have HW := Lib.hid hW
          clear hW hD
          go_wp2
          exact HRR.out _ HW.out
        case hnp => rfl
        case hv => first | exact ⟨_, fun _ => rfl⟩ | exact ⟨undef, fun _ => rfl⟩
        apply obl_det
        case hrun =>
          intro D y wz hW hD R hR
          have HRR := Lib.hid hR
          clear hR
          have HW := Lib.hid hW
          clear hW hD
          go_wp2
          exact HRR.out _ HW.out
        case hnp => rfl
        case hv => first | exact ⟨_, fun _ => rfl⟩ | exact ⟨undef, fun _ => rfl⟩
        apply obl_det
        case hrun =>
          intro D y wz hW hD R hR
          have HRR := Lib.hid hR
          clear hR
          have HW := Lib.hid hW
          have ck := (hW.1.low.cell (p := ⟨bp, op + i, none⟩) hbp).trans KP.out
          clear hW hD
          go_wp2
          exact HRR.out _ HW.out
        case hnp => rfl
        case hv => first | exact ⟨_, fun _ => rfl⟩ | exact ⟨undef, fun _ => rfl⟩
        apply obl_priv 62
        case hd => rfl
        case hp => rfl
        case hrun =>
          intro D y wz hW hD R hR
          have HRR := Lib.hid hR
          clear hR
          have ha : D 6 = false := hD.post _ 6 rfl (by kernel_rfl)
          have HW := Lib.hid hW
          have HA := Lib.hid ha
          clear hW hD ha
          go_wp2_with fail
          refine HRR.out _ _ ⟨?_, HW.out.2⟩
          exact HW.out.1.puts1
        apply obl_priv 63
        case hd => rfl
        case hp => rfl
        case hrun =>
          intro D y wz hW hD R hR
          have HRR := Lib.hid hR
          clear hR
          have ha : D 6 = false := hD.not
          have hb : D 5 = true := hD.pre _ 5 rfl (by kernel_rfl)
          have HR2 := Lib.hid hW.2
          have HX := Lib.hid (hD.post _ 14 rfl (by kernel_rfl))
          have hM := hW.1
          rw [ha] at hM
          simp only [Bool.false_eq_true, if_false] at hM
          obtain ⟨g0, e0, hg0, hne0⟩ := hM.s1 hb rfl
          have ho := hM.r1
          have hs := hM.hs
          have HM := Lib.hid hM
          have HG0 := Lib.hid hg0
          have E0 := Lib.hid e0
          have HAA := Lib.hid ha
          clear hW hD ha hb hM hg0 e0
          refine wpList_append_lies _ rfl _ _ 26 rfl W0.heap.size 3 i0 (.int .i64 0) 1 8 Try.underlying26 hi0 hz0 hz1 hz2 rfl (by decide) _ _ _ rfl ho ⟨g0, 0, none⟩ 1 1 [.int .i64 x] E0.out rfl (cell_news _ _ _ _ HG0.out) (one_int _) (by omega) (by unfold maxLen; omega) (by omega) hs _ rfl ?_
          intro g cap w12 hown12 hgrow12 hgg _
          have HN := Lib.hid (HM.out.gotr1 hown12 hgrow12 hgg)
          clear hown12 hgrow12 ho hgg
          go_wp2
          refine HRR.out (.slice (some ⟨g, 0, none⟩) ((n1 + 1) + 1) cap) _ ⟨?_, ?_⟩
          · exact HN.out
          · exact ⟨HR2.out.1, fun h => (by have h2 : D 14 = true := h; rw [HX.out] at h2; cases h2), HR2.out.2.2⟩
        apply obl_det
        case hrun =>
          intro D y wz hW hD R hR
          refine wpList_mv rfl _ rfl (.slice b2 i c2) (hW.2.2.2.1 (hD.post _ 15 rfl (by kernel_rfl))) ?_
          exact hR _ hW
        case hnp => rfl
        case hv => first | exact ⟨_, fun _ => rfl⟩ | exact ⟨undef, fun _ => rfl⟩
        apply obl_det
        case hrun =>
          intro D y wz hW hD R hR
          have HRR := Lib.hid hR
          clear hR
          have HW := Lib.hid hW
          clear hW hD
          go_wp2
          exact HRR.out _ HW.out
        case hnp => rfl
        case hv => first | exact ⟨_, fun _ => rfl⟩ | exact ⟨undef, fun _ => rfl⟩
        apply obl_det
        case hrun =>
          intro D y wz hW hD R hR
          have HRR := Lib.hid hR
          clear hR
          have HW := Lib.hid hW
          clear hW hD
          go_wp2
          exact HRR.out _ HW.out
        case hnp => rfl
        case hv => first | exact ⟨_, fun _ => rfl⟩ | exact ⟨undef, fun _ => rfl⟩
        apply obl_det
        case hrun =>
          intro D y wz hW hD R hR
          have HRR := Lib.hid hR
          clear hR
          have HW := Lib.hid hW
          clear hW hD
          go_wp2
          exact HRR.out _ HW.out
        case hnp => rfl
        case hv => first | exact ⟨_, fun _ => rfl⟩ | exact ⟨undef, fun _ => rfl⟩
        apply obl_det
        case hrun =>
          intro D y wz hW hD R hR
          have HRR := Lib.hid hR
          clear hR
          have HW := Lib.hid hW
          have ck := (hW.1.low.cell (p := ⟨bp, op + i, none⟩) hbp).trans KP.out
          clear hW hD
          go_wp2
          exact HRR.out _ HW.out
        case hnp => rfl
        case hv => first | exact ⟨_, fun _ => rfl⟩ | exact ⟨undef, fun _ => rfl⟩
        apply obl_priv 69
        case hd => rfl
        case hp => rfl
        case hrun =>
          intro D y wz hW hD R hR
          have HRR := Lib.hid hR
          clear hR
          have ha : D 13 = false := hD.post _ 13 rfl (by kernel_rfl)
          have HW := Lib.hid hW
          have HA := Lib.hid ha
          clear hW hD ha
          go_wp2_with fail
          refine HRR.out _ _ ⟨?_, HW.out.2⟩
          exact HW.out.1.puts2
        apply obl_priv 70
        case hd => rfl
        case hp => rfl
        case hrun =>
          intro D y wz hW hD R hR
          have HRR := Lib.hid hR
          clear hR
          have ha : D 13 = false := hD.not
          have hb : D 12 = true := hD.pre _ 12 rfl (by kernel_rfl)
          have HR2 := Lib.hid hW.2
          have HX := Lib.hid (hD.post _ 15 rfl (by kernel_rfl))
          have hM := hW.1
          rw [ha] at hM
          simp only [Bool.false_eq_true, if_false] at hM
          obtain ⟨g0, e0, hg0, hne0⟩ := hM.s2 hb rfl
          have ho := hM.r2
          have hs := hM.hs
          have HM := Lib.hid hM
          have HG0 := Lib.hid hg0
          have E0 := Lib.hid e0
          have HAA := Lib.hid ha
          clear hW hD ha hb hM hg0 e0
          refine wpList_append_lies _ rfl _ _ 26 rfl W0.heap.size 3 i0 (.int .i64 0) 1 8 Try.underlying26 hi0 hz0 hz1 hz2 rfl (by decide) _ _ _ rfl ho ⟨g0, 0, none⟩ 1 1 [.int .i64 x] E0.out rfl (cell_news _ _ _ _ HG0.out) (one_int _) (by omega) (by unfold maxLen; omega) (by omega) hs _ rfl ?_
          intro g cap w12 hown12 hgrow12 hgg _
          have HN := Lib.hid (HM.out.gotr2 hown12 hgrow12 hgg)
          clear hown12 hgrow12 ho hgg
          go_wp2
          refine HRR.out (.slice (some ⟨g, 0, none⟩) (i + 1) cap) _ ⟨?_, ?_⟩
          · exact HN.out
          · exact ⟨HR2.out.1, HR2.out.2.1, HR2.out.2.2.1, fun h => (by have h2 : D 15 = true := h; rw [HX.out] at h2; cases h2)⟩
        apply obl_priv 10
        case hd => rfl
        case hp => rfl
        case hrun =>
          intro D y wz hW hD R hR
          have HRR := Lib.hid hR
          clear hR
          refine wpList_as rfl _ rfl (y 63) rfl ?_
          refine HRR.out (y 63) _ ⟨hW.1, ?_⟩
          exact ⟨fun h => (by cases h), fun _ => rfl, hW.2.2.2⟩
        apply obl_priv 11
        case hd => rfl
        case hp => rfl
        case hrun =>
          intro D y wz hW hD R hR
          have HRR := Lib.hid hR
          clear hR
          refine wpList_as rfl _ rfl (y 70) rfl ?_
          refine HRR.out (y 70) _ ⟨hW.1, ?_⟩
          exact ⟨hW.2.1, hW.2.2.1, fun h => (by cases h), fun _ => rfl⟩
        apply obl_nil
        intro D y w8 hall hW
        have hM := hW.1
        rw [hall 5 (by decide), hall 6 (by decide), hall 12 (by decide), hall 13 (by decide)] at hM
        simp only [if_true] at hM
        have e10 := hW.2.2.1 (hall 14 (by decide))
        have e11 := hW.2.2.2.2 (hall 15 (by decide))
        rw [← e10, ← e11] at hM
        have HMN := Lib.hid hM
        clear hW hall hM e10 e11
        generalize y 10 = y10 at *
        generalize y 11 = y11 at *
        generalize y 62 = y62 at *
        generalize y 69 = y69 at *
        generalize y 63 = y63 at *
        generalize y 70 = y70 at *
        obtain ⟨b10, c10, rfl⟩ := ownsRow_slice HMN.out.r1
        obtain ⟨b11, c11, rfl⟩ := ownsRow_slice HMN.out.r2
        clear HMO
        go_wp2_with fail
        refine ⟨⟨i + 1, (n1 + 1) + 1, b10, c10, b11, c11, rfl, rfl, by rw [HPUT.out], by push_cast; rfl, by omega, by rw [HLEN1.out], ?_⟩, ?_⟩
        · rw [HMORE.out, HTAKE.out]
          have h := HMN.out
          simp only [List.map_append, List.map_cons, List.map_nil] at h ⊢
          exact ⟨h.low, h.hs, h.r1, h.r2, h.ne, fun e => (by cases e), fun e => (by cases e)⟩
        · simp [intOf]
          omega

      · have HMORE := Lib.hid (more_gt (n := n) hiq (plan := plan) (by have := HL.out; omega))
        have HLEN1 : Hid ((moreTo plan n q (i + 1)).length = n1 + 1) := by unfold Hid; rw [HMORE.out, List.length_append, ← HN1.out]; rfl
        have hdq : decide (q < i) = true := decide_eq_true (by omega)
        have HPUT : Hid (decide (q < i + 1) = true) := decide_eq_true (by omega)
        clear hiq
        generalize plan.getD i 0 = x at *
        have HMO : Hid (MoW W0 (.int .i64 x) (.slice b1 n1 c1) n1 ((moreTo plan n q i).map (Value.int .i64)) (.slice b2 i c2) i ((plan.take i).map (Value.int .i64)) false false false false undef undef wr) := ⟨HMO0.out.low, HMO0.out.hs, HMO0.out.r1, HMO0.out.r2, HMO0.out.ne, fun h => (by cases h), fun h => (by cases h)⟩
        clear HMO0
        rw [hdq]
        go_wp2_with fail
        clear ck0
        refine wp_region_inv1 (by kernel_rfl) (by kernel_rfl) [62, 63, 69, 70, 10, 11] (fun D y w' => MoW W0 (.int .i64 x) (if D 6 = true then y 63 else .slice b1 n1 c1) (if D 6 = true then n1 + 1 else n1) (if D 6 = true then ((moreTo plan n q i).map (Value.int .i64)) ++ [.int .i64 x] else ((moreTo plan n q i).map (Value.int .i64))) (if D 13 = true then y 70 else .slice b2 i c2) (if D 13 = true then i + 1 else i) (if D 13 = true then ((plan.take i).map (Value.int .i64)) ++ [.int .i64 x] else ((plan.take i).map (Value.int .i64))) (D 5) (D 6) (D 12) (D 13) (y 62) (y 69) w' ∧ (D 14 = false → y 10 = .slice b1 n1 c1) ∧ (D 14 = true → y 10 = y 63) ∧ (D 15 = false → y 11 = .slice b2 i c2) ∧ (D 15 = true → y 11 = y 70)) ⟨⟨HMO.out.low.drew, HMO.out.hs, ownsRow.below HMO.out.r1 (Below.refl _ _).drew, ownsRow.below HMO.out.r2 (Below.refl _ _).drew, HMO.out.ne, fun h => (by cases h), fun h => (by cases h)⟩, fun _ => rfl, fun h => (by cases h), fun _ => rfl, fun h => (by cases h)⟩ ?FC ?hFC ?_
        case hFC =>
          intro y
          simp only [fill, List.foldl, Act.put, List.setIfInBounds_toArray, List.set]
          exact rfl
        apply obl_det
        case hrun =>
          intro D y wz hW hD R hR
          refine wpList_mv rfl _ rfl (.slice b1 n1 c1) (hW.2.1 (hD.post _ 14 rfl (by kernel_rfl))) ?_
          exact hR _ hW
        case hnp => rfl
        case hv => first | exact ⟨_, fun _ => rfl⟩ | exact ⟨undef, fun _ => rfl⟩
        apply obl_det
        case hrun =>
          intro D y wz hW hD R hR
          have HRR := Lib.hid hR
          clear hR
          have HW := Lib.hid hW
          clear hW hD
          go_wp2
          exact HRR.out _ HW.out
        case hnp => rfl
        case hv => first | exact ⟨_, fun _ => rfl⟩ | exact ⟨undef, fun _ => rfl⟩
        apply obl_det
        case hrun =>
          intro D y wz hW hD R hR
          have HRR := Lib.hid hR
          clear hR
          have HW := Lib.hid hW
          clear hW hD
          go_wp2
          exact HRR.out _ HW.out
        case hnp => rfl
        case hv => first | exact ⟨_, fun _ => rfl⟩ | exact ⟨undef, fun _ => rfl⟩
        apply obl_det
        case hrun =>
          intro D y wz hW hD R hR
          have HRR := Lib.hid hR
          clear hR
          have HW := Lib.hid hW
          clear hW hD
          go_wp2
          exact HRR.out _ HW.out
        case hnp => rfl
        case hv => first | exact ⟨_, fun _ => rfl⟩ | exact ⟨undef, fun _ => rfl⟩
        apply obl_det
        case hrun =>
          intro D y wz hW hD R hR
          have HRR := Lib.hid hR
          clear hR
          have HW := Lib.hid hW
          have ck := (hW.1.low.cell (p := ⟨bp, op + i, none⟩) hbp).trans KP.out
          clear hW hD
          go_wp2
          exact HRR.out _ HW.out
        case hnp => rfl
        case hv => first | exact ⟨_, fun _ => rfl⟩ | exact ⟨undef, fun _ => rfl⟩
        apply obl_priv 62
        case hd => rfl
        case hp => rfl
        case hrun =>
          intro D y wz hW hD R hR
          have HRR := Lib.hid hR
          clear hR
          have ha : D 6 = false := hD.post _ 6 rfl (by kernel_rfl)
          have HW := Lib.hid hW
          have HA := Lib.hid ha
          clear hW hD ha
          go_wp2_with fail
          refine HRR.out _ _ ⟨?_, HW.out.2⟩
          exact HW.out.1.puts1
        apply obl_priv 63
        case hd => rfl
        case hp => rfl
        case hrun =>
          intro D y wz hW hD R hR
          have HRR := Lib.hid hR
          clear hR
          have ha : D 6 = false := hD.not
          have hb : D 5 = true := hD.pre _ 5 rfl (by kernel_rfl)
          have HR2 := Lib.hid hW.2
          have HX := Lib.hid (hD.post _ 14 rfl (by kernel_rfl))
          have hM := hW.1
          rw [ha] at hM
          simp only [Bool.false_eq_true, if_false] at hM
          obtain ⟨g0, e0, hg0, hne0⟩ := hM.s1 hb rfl
          have ho := hM.r1
          have hs := hM.hs
          have HM := Lib.hid hM
          have HG0 := Lib.hid hg0
          have E0 := Lib.hid e0
          have HAA := Lib.hid ha
          clear hW hD ha hb hM hg0 e0
          refine wpList_append_lies _ rfl _ _ 26 rfl W0.heap.size 3 i0 (.int .i64 0) 1 8 Try.underlying26 hi0 hz0 hz1 hz2 rfl (by decide) _ _ _ rfl ho ⟨g0, 0, none⟩ 1 1 [.int .i64 x] E0.out rfl (cell_news _ _ _ _ HG0.out) (one_int _) (by omega) (by unfold maxLen; omega) (by omega) hs _ rfl ?_
          intro g cap w12 hown12 hgrow12 hgg _
          have HN := Lib.hid (HM.out.gotr1 hown12 hgrow12 hgg)
          clear hown12 hgrow12 ho hgg
          go_wp2
          refine HRR.out (.slice (some ⟨g, 0, none⟩) (n1 + 1) cap) _ ⟨?_, ?_⟩
          · exact HN.out
          · exact ⟨HR2.out.1, fun h => (by have h2 : D 14 = true := h; rw [HX.out] at h2; cases h2), HR2.out.2.2⟩
        apply obl_det
        case hrun =>
          intro D y wz hW hD R hR
          refine wpList_mv rfl _ rfl (.slice b2 i c2) (hW.2.2.2.1 (hD.post _ 15 rfl (by kernel_rfl))) ?_
          exact hR _ hW
        case hnp => rfl
        case hv => first | exact ⟨_, fun _ => rfl⟩ | exact ⟨undef, fun _ => rfl⟩
        apply obl_det
        case hrun =>
          intro D y wz hW hD R hR
          have HRR := Lib.hid hR
          clear hR
          have HW := Lib.hid hW
          clear hW hD
          go_wp2
          exact HRR.out _ HW.out
        case hnp => rfl
        case hv => first | exact ⟨_, fun _ => rfl⟩ | exact ⟨undef, fun _ => rfl⟩
        apply obl_det
        case hrun =>
          intro D y wz hW hD R hR
          have HRR := Lib.hid hR
          clear hR
          have HW := Lib.hid hW
          clear hW hD
          go_wp2
          exact HRR.out _ HW.out
        case hnp => rfl
        case hv => first | exact ⟨_, fun _ => rfl⟩ | exact ⟨undef, fun _ => rfl⟩
        apply obl_det
        case hrun =>
          intro D y wz hW hD R hR
          have HRR := Lib.hid hR
          clear hR
          have HW := Lib.hid hW
          clear hW hD
          go_wp2
          exact HRR.out _ HW.out
        case hnp => rfl
        case hv => first | exact ⟨_, fun _ => rfl⟩ | exact ⟨undef, fun _ => rfl⟩
        apply obl_det
        case hrun =>
          intro D y wz hW hD R hR
          have HRR := Lib.hid hR
          clear hR
          have HW := Lib.hid hW
          have ck := (hW.1.low.cell (p := ⟨bp, op + i, none⟩) hbp).trans KP.out
          clear hW hD
          go_wp2
          exact HRR.out _ HW.out
        case hnp => rfl
        case hv => first | exact ⟨_, fun _ => rfl⟩ | exact ⟨undef, fun _ => rfl⟩
        apply obl_priv 69
        case hd => rfl
        case hp => rfl
        case hrun =>
          intro D y wz hW hD R hR
          have HRR := Lib.hid hR
          clear hR
          have ha : D 13 = false := hD.post _ 13 rfl (by kernel_rfl)
          have HW := Lib.hid hW
          have HA := Lib.hid ha
          clear hW hD ha
          go_wp2_with fail
          refine HRR.out _ _ ⟨?_, HW.out.2⟩
          exact HW.out.1.puts2
        apply obl_priv 70
        case hd => rfl
        case hp => rfl
        case hrun =>
          intro D y wz hW hD R hR
          have HRR := Lib.hid hR
          clear hR
          have ha : D 13 = false := hD.not
          have hb : D 12 = true := hD.pre _ 12 rfl (by kernel_rfl)
          have HR2 := Lib.hid hW.2
          have HX := Lib.hid (hD.post _ 15 rfl (by kernel_rfl))
          have hM := hW.1
          rw [ha] at hM
          simp only [Bool.false_eq_true, if_false] at hM
          obtain ⟨g0, e0, hg0, hne0⟩ := hM.s2 hb rfl
          have ho := hM.r2
          have hs := hM.hs
          have HM := Lib.hid hM
          have HG0 := Lib.hid hg0
          have E0 := Lib.hid e0
          have HAA := Lib.hid ha
          clear hW hD ha hb hM hg0 e0
          refine wpList_append_lies _ rfl _ _ 26 rfl W0.heap.size 3 i0 (.int .i64 0) 1 8 Try.underlying26 hi0 hz0 hz1 hz2 rfl (by decide) _ _ _ rfl ho ⟨g0, 0, none⟩ 1 1 [.int .i64 x] E0.out rfl (cell_news _ _ _ _ HG0.out) (one_int _) (by omega) (by unfold maxLen; omega) (by omega) hs _ rfl ?_
          intro g cap w12 hown12 hgrow12 hgg _
          have HN := Lib.hid (HM.out.gotr2 hown12 hgrow12 hgg)
          clear hown12 hgrow12 ho hgg
          go_wp2
          refine HRR.out (.slice (some ⟨g, 0, none⟩) (i + 1) cap) _ ⟨?_, ?_⟩
          · exact HN.out
          · exact ⟨HR2.out.1, HR2.out.2.1, HR2.out.2.2.1, fun h => (by have h2 : D 15 = true := h; rw [HX.out] at h2; cases h2)⟩
        apply obl_priv 10
        case hd => rfl
        case hp => rfl
        case hrun =>
          intro D y wz hW hD R hR
          have HRR := Lib.hid hR
          clear hR
          refine wpList_as rfl _ rfl (y 63) rfl ?_
          refine HRR.out (y 63) _ ⟨hW.1, ?_⟩
          exact ⟨fun h => (by cases h), fun _ => rfl, hW.2.2.2⟩
        apply obl_priv 11
        case hd => rfl
        case hp => rfl
        case hrun =>
          intro D y wz hW hD R hR
          have HRR := Lib.hid hR
          clear hR
          refine wpList_as rfl _ rfl (y 70) rfl ?_
          refine HRR.out (y 70) _ ⟨hW.1, ?_⟩
          exact ⟨hW.2.1, hW.2.2.1, fun h => (by cases h), fun _ => rfl⟩
        apply obl_nil
        intro D y w8 hall hW
        have hM := hW.1
        rw [hall 5 (by decide), hall 6 (by decide), hall 12 (by decide), hall 13 (by decide)] at hM
        simp only [if_true] at hM
        have e10 := hW.2.2.1 (hall 14 (by decide))
        have e11 := hW.2.2.2.2 (hall 15 (by decide))
        rw [← e10, ← e11] at hM
        have HMN := Lib.hid hM
        clear hW hall hM e10 e11
        generalize y 10 = y10 at *
        generalize y 11 = y11 at *
        generalize y 62 = y62 at *
        generalize y 69 = y69 at *
        generalize y 63 = y63 at *
        generalize y 70 = y70 at *
        obtain ⟨b10, c10, rfl⟩ := ownsRow_slice HMN.out.r1
        obtain ⟨b11, c11, rfl⟩ := ownsRow_slice HMN.out.r2
        clear HMO
        go_wp2_with fail
        refine ⟨⟨i + 1, n1 + 1, b10, c10, b11, c11, rfl, rfl, by rw [HPUT.out], by push_cast; rfl, by omega, by rw [HLEN1.out], ?_⟩, ?_⟩
        · rw [HMORE.out, HTAKE.out]
          have h := HMN.out
          simp only [List.map_append, List.map_cons, List.map_nil] at h ⊢
          exact ⟨h.low, h.hs, h.r1, h.r2, h.ne, fun e => (by cases e), fun e => (by cases e)⟩
        · simp [intOf]
          omega

    · obtain rfl : L = i := by omega
      have hkl : ¬ ((L : Int) < (L : Int)) := by omega
      have CW00 : Hid (Bs w _ wr) := Lib.hid (C1.out.call HMO0.out.low)
      rcases Nat.lt_or_ge q L with hqL2 | hqL2
      · have hdq : decide (q < L) = true := decide_eq_true hqL2
        have hfin : moreTo plan n q L = finL plan n := by
          unfold moreTo finL
          rw [if_neg (by omega), HQ.out, List.take_of_length_le (i := L) (by rw [HL.out]; exact Nat.le_refl _)]
        rw [hdq]
        rw [hfin] at HMO0 HN1
        have HFL : Hid ((finL plan n).length = n1) := HN1.out.symm
        have hnb : n1 ≤ 41 := by
          have h := HN1.out
          unfold finL at h
          have h2 := lead_le n plan
          have h3 := HL.out
          simp at h
          omega
        clear hdq hfin
        have HM1 := HMO0
        have CW0 := CW00
        clear HMO0 CW00
        generalize wr = WC at *
        have hLi : (0 : Int) < (L : Int) := by omega
        have hm : (x1 % (L : Int)) = ((x1.toNat % L : Nat) : Int) := by rw [Int.natCast_emod, Int.toNat_of_nonneg h10]
        have hm2 : (x1.tmod (L : Int)) = ((x1.toNat % L : Nat) : Int) := by rw [Int.tmod_eq_emod_of_nonneg h10]; exact hm
        have hkk := Nat.mod_lt x1.toNat (show 0 < L by omega)
        generalize x1.toNat % L = kk at *
        have hkL : (kk : Int) < (L : Int) := by omega
        have hq0 : ((L : Int) == 0) = false := by simp; omega
        have R2 := HM1.out.r2
        have htk : plan.take L = plan := List.take_of_length_le (by rw [HL.out]; exact Nat.le_refl _)
        rw [htk] at R2
        have hI := (ownsRow_ints (l := plan) (by rw [HL.out]; exact R2) (by rw [HL.out]; omega)).1
        rcases R2.2 with ⟨-, h0⟩ | ⟨g2, cap2, cur, ev, hg2, hcur, hcap, -, hcs, hct⟩
        · omega
        simp only [Value.slice.injEq, true_and] at ev
        obtain ⟨rfl, rfl⟩ := ev
        obtain ⟨_, _, hva, -, hcc⟩ := hI
        simp only [Value.slice.injEq] at hva
        obtain ⟨e1, -, -⟩ := hva
        subst e1
        obtain ⟨b', o', e2, -, hcell⟩ := hcc.resolve_left (by intro h; have := HL.out; rw [h] at this; simp at this; omega)
        simp only [Option.some.injEq, Addr.mk.injEq, and_true] at e2
        obtain ⟨rfl, rfl⟩ := e2
        have ckk := hcell kk (by rw [HL.out]; exact hkk)
        rw [Nat.zero_add] at ckk
        have hz0 := (HR0.out kk hkk).1
        have hz6 := (HR0.out kk hkk).2
        have hzw : IntKind.i64.wrap (plan.getD kk 0 + x2 % 30) = plan.getD kk 0 + x2 % 30 := by rw [IntKind.wrap_i64]; omega
        have hx30 : x2.tmod 30 = x2 % 30 := Int.tmod_eq_emod_of_nonneg h20
        have hvv : Value.int .i64 (IntKind.i64.wrap (plan.getD kk 0 + (IntKind.i64.wrap x2).tmod 30)) = .int .i64 (plan.getD kk 0 + x2 % 30) := by
          rw [show IntKind.i64.wrap x2 = x2 from by rw [IntKind.wrap_i64]; omega, hx30, hzw]
        have HVV := Lib.hid hvv
        clear hvv hzw hx30
        have hgw : w.heap.size ≤ g2 := by have := C1.out.bel.size; omega
        have DD : Bs w [(g2, .cells cur 3)] WC := ⟨by intro p hp; simp at hp; subst hp; exact hcur, by simp, by intro p hp; simp at hp; subst hp; exact hgw, CW0.out.bel⟩
        have HDD := Lib.hid DD
        have HCT := Lib.hid hct
        have HCELL := Lib.hid hcell
        have HKK := Lib.hid hkk
        have hcsz : kk < cur.size := by omega
        have HCS := Lib.hid hcsz
        have HG2 := Lib.hid hg2
        have c1 := CW0.out.cell 1 rfl
        clear R2 htk hct hcell hcur hcc hcs hcap DD hgw hkk hcsz hg2
        generalize hzz : plan.getD kk 0 = z at *
        have HZZ := Lib.hid hzz
        clear hzz
        go_wp2_with fail
        go_still_tail 12, (by kernel_rfl)
        change wpList _ _ _ _ _ (WC.drewN 1)
        have HD1 := Lib.hid (HDD.out.drewN 1)
        refine wpList_cell_bz rfl 3 _ _ rfl HD1.out 0 g2 kk _ _ rfl rfl (.int .i64 (IntKind.i64.wrap (z + (IntKind.i64.wrap x2).tmod 30))) rfl HCS.out rfl info3 ?_
        rw [HVV.out]
        intro w13 hD13 hk13 hs13
        have CW : Hid (Bs w _ w13) := Lib.hid (CW0.out.hk hD13.bel hk13 (fun p hp => by have h1 := block_lt (C1.out.get' p hp); have := HG2.out; omega))
        have HI1 := Lib.hid (OwnInts.ints (l := finL plan n) (base := W0.heap.size) (by unfold OwnInts; rw [HFL.out]; exact ownsRow.hk HM1.out.r1 hk13 (fun e => HM1.out.ne _ e rfl)) (by rw [HFL.out]; omega))
        have HI2 : Hid (IntsIn .i64 w13.heap.size w13 (.slice (some ⟨g2, 0, none⟩) L c2) (plan.set kk (z + x2 % 30))) := later_in hD13 HDD.out HCS.out HCELL.out HL.out (by omega)
        clear hD13 hk13 hs13
        have HL3 := HLE3.out kk (x2 % 30) hd0
        have HL4 := HLE4.out kk (x2 % 30) hd0
        rw [HZZ.out] at HL3 HL4
        clear c1 HDD HD1 HCT HCELL CW0
        go_wp2_with (refine wpList_load_bs rfl 25 _ rfl CW.out 0 w.heap.size #[.int .i64 m.rings, .int .i64 m.give, .int .i64 m.pl, .int .i64 m.ph, .int .i64 m.wl, .int .i64 m.wh, .int .i64 m.set, .int .i64 m.shrink, .int .i64 m.skin, .int .i64 m.fill, .int .i64 m.gap, .int .i64 m.deep] 25 rfl rfl _ Try.underlying25 rfl info25 ?_)
        refine (HA _ _ _ HI1.out).out.mono ?_
        rintro e w21 ⟨rfl, hb⟩
        have HR1 := Lib.hid (HRES.out _ ⟨HLE1.out n, HLE2.out n⟩)
        have HR2 := Lib.hid (HRES.out (plan.set kk (z + x2 % 30)) ⟨HL3, HL4⟩)
        generalize hollowV m (finL plan n) = F at *
        obtain ⟨⟨f1, f2⟩, ⟨f3, f4⟩, fe⟩ := F
        have CX := Lib.hid ((CW.out.call hb).push w21.heap.size rfl (.cells #[.int .i64 f1, .int .i64 f2, .int .i64 f3, .int .i64 f4] 45))
        have HI2 := Lib.hid (HI2.out.next (hb.alloc hb.size (.cells #[.int .i64 f1, .int .i64 f2, .int .i64 f3, .int .i64 f4] 45)))
        clear hb CW HI1
        go_wp2_with (refine wpList_load_bs rfl 25 _ rfl CX.out 0 w.heap.size #[.int .i64 m.rings, .int .i64 m.give, .int .i64 m.pl, .int .i64 m.ph, .int .i64 m.wl, .int .i64 m.wh, .int .i64 m.set, .int .i64 m.shrink, .int .i64 m.skin, .int .i64 m.fill, .int .i64 m.gap, .int .i64 m.deep] 25 rfl rfl _ Try.underlying25 rfl info25 ?_)
        refine (HA _ _ _ HI2.out).out.mono ?_
        rintro e w22 ⟨rfl, hb⟩
        generalize hollowV m (plan.set kk (z + x2 % 30)) = G at *
        obtain ⟨⟨h1, h2⟩, ⟨h3, h4⟩, he⟩ := G
        have CZ := Lib.hid ((CX.out.call hb).push w22.heap.size rfl (.cells #[.int .i64 h1, .int .i64 h2, .int .i64 h3, .int .i64 h4] 45))
        clear hb CX HI2
        have k2 := CZ.out.cell 2 rfl
        have k3 := CZ.out.cell 3 rfl
        have k4 := CZ.out.cell 4 rfl
        by_cases hfe : fe = 0
        · obtain ⟨p1, p2⟩ := HR1.out hfe
          subst hfe
          by_cases hhe : he = 0
          · obtain ⟨p4, p5⟩ := HR2.out hhe
            subst hhe
            go_wp2_with fail
            refine (awake_any _).mono ?_
            rintro e w14 ⟨rfl, hb⟩
            have HBel := Lib.hid (CZ.out.call hb).bel
            clear hb CZ k2 k3 k4
            go_wp2
            go_ret
            exact ⟨rfl, HBel.out⟩
          · have p6 : (he == 0) = false := by simpa using hhe
            clear hhe
            go_wp2_with fail
            refine (awake_any _).mono ?_
            rintro e w14 ⟨rfl, hb⟩
            have HBel := Lib.hid (CZ.out.call hb).bel
            clear hb CZ k2 k3 k4
            go_wp2
            go_ret
            exact ⟨rfl, HBel.out⟩
        · have p3 : (fe == 0) = false := by simpa using hfe
          clear hfe
          by_cases hhe : he = 0
          · obtain ⟨p4, p5⟩ := HR2.out hhe
            subst hhe
            go_wp2_with fail
            refine (awake_any _).mono ?_
            rintro e w14 ⟨rfl, hb⟩
            have HBel := Lib.hid (CZ.out.call hb).bel
            clear hb CZ k2 k3 k4
            go_wp2
            go_ret
            exact ⟨rfl, HBel.out⟩
          · have p6 : (he == 0) = false := by simpa using hhe
            clear hhe
            go_wp2_with fail
            refine (awake_any _).mono ?_
            rintro e w14 ⟨rfl, hb⟩
            have HBel := Lib.hid (CZ.out.call hb).bel
            clear hb CZ k2 k3 k4
            go_wp2
            go_ret
            exact ⟨rfl, HBel.out⟩

      · obtain rfl : q = L := by omega
        have hdq : decide (q < q) = false := decide_eq_false (by omega)
        have hfin : moreTo plan n q q ++ [n] = finL plan n := by
          unfold moreTo finL
          rw [if_pos (Nat.le_refl _), HQ.out, List.drop_of_length_le (by rw [HL.out]; exact Nat.le_refl _)]
        have hnb0 : n1 ≤ 41 := by
          have h := HN1.out
          unfold moreTo at h
          rw [if_pos (Nat.le_refl _), List.length_take] at h
          omega
        have HFL : Hid ((finL plan n).length = n1 + 1) := by unfold Hid; rw [← hfin, List.length_append, ← HN1.out]; rfl
        have hnb : n1 + 1 ≤ 41 := by
          have h := HFL.out
          unfold finL at h
          have h2 := lead_le n plan
          have h3 := HL.out
          simp at h
          omega
        have hsz : W0.heap.size ≤ wr.heap.size := HMO0.out.hs
        have HFIN := Lib.hid hfin
        rw [hdq]
        clear hdq hfin
        by_cases hL0 : q = 0
        · subst hL0
          go_upto_region 15 with (at_builtin; refine wpList_append_lies _ rfl _ _ 26 rfl W0.heap.size 3 i0 (.int .i64 0) 1 8 Try.underlying26 hi0 hz0 hz1 hz2 rfl (by decide) (.slice b1 n1 c1) n1 _ rfl (HMO0.out.r1.alloc _) ⟨wr.heap.size, 0, none⟩ 1 1 [.int .i64 n] rfl rfl (cell_news _ _ _ _ (heap_alloc_new _ _)) (one_int _) (by omega) (by unfold maxLen; omega) (by omega) (by simp; omega) _ rfl ?_; intro g cap w12 hown12 hgrow12 hgg12 _; have HN12 := Lib.hid ((HMO0.out.next ((Below.refl wr.heap.size wr).alloc (Nat.le_refl _) (.cells #[.int .i64 n] 3))).gotr1 hown12 hgrow12 hgg12); clear hown12 hgrow12 hgg12)
          have HM1 : Hid (MoW W0 (.int .i64 0) (.slice (some ⟨g, 0, none⟩) (n1 + 1) cap) (n1 + 1) ((finL plan n).map (Value.int .i64)) (.slice b2 0 c2) 0 ((plan.take 0).map (Value.int .i64)) false false false false undef undef w12) := ⟨HN12.out.low, HN12.out.hs, by rw [← HFIN.out, List.map_append]; exact HN12.out.r1, HN12.out.r2, HN12.out.ne, fun h => (by cases h), fun h => (by cases h)⟩
          have CW0 : Hid (Bs w _ w12) := Lib.hid (C1.out.call HN12.out.low)
          clear HMO0 HN12 CW00
          generalize w12 = WC at *
          have hnil : plan = [] := List.eq_nil_of_length_eq_zero HL.out
          have HI1 := Lib.hid (OwnInts.ints (l := finL plan n) (base := W0.heap.size) (by unfold OwnInts; rw [HFL.out]; exact HM1.out.r1) (by rw [HFL.out]; omega))
          have HI2 : Hid (IntsIn .i64 WC.heap.size WC (.slice b2 0 c2) plan) := ⟨b2, c2, by rw [hnil]; rfl, by rw [hnil]; simp, .inl hnil⟩
          have CW := CW0
          clear CW0 hnil HM1
          go_wp2_with (refine wpList_load_bs rfl 25 _ rfl CW.out 0 w.heap.size #[.int .i64 m.rings, .int .i64 m.give, .int .i64 m.pl, .int .i64 m.ph, .int .i64 m.wl, .int .i64 m.wh, .int .i64 m.set, .int .i64 m.shrink, .int .i64 m.skin, .int .i64 m.fill, .int .i64 m.gap, .int .i64 m.deep] 25 rfl rfl _ Try.underlying25 rfl info25 ?_)
          refine (HA _ _ _ HI1.out).out.mono ?_
          rintro e w21 ⟨rfl, hb⟩
          have HR1 := Lib.hid (HRES.out _ ⟨HLE1.out n, HLE2.out n⟩)
          have HR2 := Lib.hid (HRES.out plan ⟨by rw [HGa1.out]; exact Int.le_refl _, by rw [HGa2.out]; exact Int.le_refl _⟩)
          generalize hollowV m (finL plan n) = F at *
          obtain ⟨⟨f1, f2⟩, ⟨f3, f4⟩, fe⟩ := F
          have CX := Lib.hid ((CW.out.call hb).push w21.heap.size rfl (.cells #[.int .i64 f1, .int .i64 f2, .int .i64 f3, .int .i64 f4] 45))
          have HI2 := Lib.hid (HI2.out.next (hb.alloc hb.size (.cells #[.int .i64 f1, .int .i64 f2, .int .i64 f3, .int .i64 f4] 45)))
          clear hb CW HI1
          go_wp2_with (refine wpList_load_bs rfl 25 _ rfl CX.out 0 w.heap.size #[.int .i64 m.rings, .int .i64 m.give, .int .i64 m.pl, .int .i64 m.ph, .int .i64 m.wl, .int .i64 m.wh, .int .i64 m.set, .int .i64 m.shrink, .int .i64 m.skin, .int .i64 m.fill, .int .i64 m.gap, .int .i64 m.deep] 25 rfl rfl _ Try.underlying25 rfl info25 ?_)
          refine (HA _ _ _ HI2.out).out.mono ?_
          rintro e w22 ⟨rfl, hb⟩
          generalize hollowV m plan = G at *
          obtain ⟨⟨h1, h2⟩, ⟨h3, h4⟩, he⟩ := G
          have CZ := Lib.hid ((CX.out.call hb).push w22.heap.size rfl (.cells #[.int .i64 h1, .int .i64 h2, .int .i64 h3, .int .i64 h4] 45))
          clear hb CX HI2
          have k2 := CZ.out.cell 2 rfl
          have k3 := CZ.out.cell 3 rfl
          have k4 := CZ.out.cell 4 rfl
          by_cases hfe : fe = 0
          · obtain ⟨p1, p2⟩ := HR1.out hfe
            subst hfe
            by_cases hhe : he = 0
            · obtain ⟨p4, p5⟩ := HR2.out hhe
              subst hhe
              go_wp2_with fail
              refine (awake_any _).mono ?_
              rintro e w14 ⟨rfl, hb⟩
              have HBel := Lib.hid (CZ.out.call hb).bel
              clear hb CZ k2 k3 k4
              go_wp2
              go_ret
              exact ⟨rfl, HBel.out⟩
            · have p6 : (he == 0) = false := by simpa using hhe
              clear hhe
              go_wp2_with fail
              refine (awake_any _).mono ?_
              rintro e w14 ⟨rfl, hb⟩
              have HBel := Lib.hid (CZ.out.call hb).bel
              clear hb CZ k2 k3 k4
              go_wp2
              go_ret
              exact ⟨rfl, HBel.out⟩
          · have p3 : (fe == 0) = false := by simpa using hfe
            clear hfe
            by_cases hhe : he = 0
            · obtain ⟨p4, p5⟩ := HR2.out hhe
              subst hhe
              go_wp2_with fail
              refine (awake_any _).mono ?_
              rintro e w14 ⟨rfl, hb⟩
              have HBel := Lib.hid (CZ.out.call hb).bel
              clear hb CZ k2 k3 k4
              go_wp2
              go_ret
              exact ⟨rfl, HBel.out⟩
            · have p6 : (he == 0) = false := by simpa using hhe
              clear hhe
              go_wp2_with fail
              refine (awake_any _).mono ?_
              rintro e w14 ⟨rfl, hb⟩
              have HBel := Lib.hid (CZ.out.call hb).bel
              clear hb CZ k2 k3 k4
              go_wp2
              go_ret
              exact ⟨rfl, HBel.out⟩

        · have hqL2 : 0 < q := by omega
          go_upto_region 15 with (at_builtin; refine wpList_append_lies _ rfl _ _ 26 rfl W0.heap.size 3 i0 (.int .i64 0) 1 8 Try.underlying26 hi0 hz0 hz1 hz2 rfl (by decide) (.slice b1 n1 c1) n1 _ rfl (HMO0.out.r1.alloc _) ⟨wr.heap.size, 0, none⟩ 1 1 [.int .i64 n] rfl rfl (cell_news _ _ _ _ (heap_alloc_new _ _)) (one_int _) (by omega) (by unfold maxLen; omega) (by omega) (by simp; omega) _ rfl ?_; intro g cap w12 hown12 hgrow12 hgg12 _; have HN12 := Lib.hid ((HMO0.out.next ((Below.refl wr.heap.size wr).alloc (Nat.le_refl _) (.cells #[.int .i64 n] 3))).gotr1 hown12 hgrow12 hgg12); clear hown12 hgrow12 hgg12)
          have HM1 : Hid (MoW W0 (.int .i64 0) (.slice (some ⟨g, 0, none⟩) (n1 + 1) cap) (n1 + 1) ((finL plan n).map (Value.int .i64)) (.slice b2 q c2) q ((plan.take q).map (Value.int .i64)) false false false false undef undef w12) := ⟨HN12.out.low, HN12.out.hs, by rw [← HFIN.out, List.map_append]; exact HN12.out.r1, HN12.out.r2, HN12.out.ne, fun h => (by cases h), fun h => (by cases h)⟩
          have CW0 : Hid (Bs w _ w12) := Lib.hid (C1.out.call HN12.out.low)
          clear HMO0 HN12 CW00
          generalize w12 = WC at *
          have hLi : (0 : Int) < (q : Int) := by omega
          have hm : (x1 % (q : Int)) = ((x1.toNat % q : Nat) : Int) := by rw [Int.natCast_emod, Int.toNat_of_nonneg h10]
          have hm2 : (x1.tmod (q : Int)) = ((x1.toNat % q : Nat) : Int) := by rw [Int.tmod_eq_emod_of_nonneg h10]; exact hm
          have hkk := Nat.mod_lt x1.toNat (show 0 < q by omega)
          generalize x1.toNat % q = kk at *
          have hkL : (kk : Int) < (q : Int) := by omega
          have hq0 : ((q : Int) == 0) = false := by simp; omega
          have R2 := HM1.out.r2
          have htk : plan.take q = plan := List.take_of_length_le (by rw [HL.out]; exact Nat.le_refl _)
          rw [htk] at R2
          have hI := (ownsRow_ints (l := plan) (by rw [HL.out]; exact R2) (by rw [HL.out]; omega)).1
          rcases R2.2 with ⟨-, h0⟩ | ⟨g2, cap2, cur, ev, hg2, hcur, hcap, -, hcs, hct⟩
          · omega
          simp only [Value.slice.injEq, true_and] at ev
          obtain ⟨rfl, rfl⟩ := ev
          obtain ⟨_, _, hva, -, hcc⟩ := hI
          simp only [Value.slice.injEq] at hva
          obtain ⟨e1, -, -⟩ := hva
          subst e1
          obtain ⟨b', o', e2, -, hcell⟩ := hcc.resolve_left (by intro h; have := HL.out; rw [h] at this; simp at this; omega)
          simp only [Option.some.injEq, Addr.mk.injEq, and_true] at e2
          obtain ⟨rfl, rfl⟩ := e2
          have ckk := hcell kk (by rw [HL.out]; exact hkk)
          rw [Nat.zero_add] at ckk
          have hz0 := (HR0.out kk hkk).1
          have hz6 := (HR0.out kk hkk).2
          have hzw : IntKind.i64.wrap (plan.getD kk 0 + x2 % 30) = plan.getD kk 0 + x2 % 30 := by rw [IntKind.wrap_i64]; omega
          have hx30 : x2.tmod 30 = x2 % 30 := Int.tmod_eq_emod_of_nonneg h20
          have hvv : Value.int .i64 (IntKind.i64.wrap (plan.getD kk 0 + (IntKind.i64.wrap x2).tmod 30)) = .int .i64 (plan.getD kk 0 + x2 % 30) := by
            rw [show IntKind.i64.wrap x2 = x2 from by rw [IntKind.wrap_i64]; omega, hx30, hzw]
          have HVV := Lib.hid hvv
          clear hvv hzw hx30
          have hgw : w.heap.size ≤ g2 := by have := C1.out.bel.size; omega
          have DD : Bs w [(g2, .cells cur 3)] WC := ⟨by intro p hp; simp at hp; subst hp; exact hcur, by simp, by intro p hp; simp at hp; subst hp; exact hgw, CW0.out.bel⟩
          have HDD := Lib.hid DD
          have HCT := Lib.hid hct
          have HCELL := Lib.hid hcell
          have HKK := Lib.hid hkk
          have hcsz : kk < cur.size := by omega
          have HCS := Lib.hid hcsz
          have HG2 := Lib.hid hg2
          have c1 := CW0.out.cell 1 rfl
          clear R2 htk hct hcell hcur hcc hcs hcap DD hgw hkk hcsz hg2
          generalize hzz : plan.getD kk 0 = z at *
          have HZZ := Lib.hid hzz
          clear hzz
          go_wp2_with fail
          go_still_tail 12, (by kernel_rfl)
          change wpList _ _ _ _ _ (WC.drewN 1)
          have HD1 := Lib.hid (HDD.out.drewN 1)
          refine wpList_cell_bz rfl 3 _ _ rfl HD1.out 0 g2 kk _ _ rfl rfl (.int .i64 (IntKind.i64.wrap (z + (IntKind.i64.wrap x2).tmod 30))) rfl HCS.out rfl info3 ?_
          rw [HVV.out]
          intro w13 hD13 hk13 hs13
          have CW : Hid (Bs w _ w13) := Lib.hid (CW0.out.hk hD13.bel hk13 (fun p hp => by have h1 := block_lt (C1.out.get' p hp); have := HG2.out; omega))
          have HI1 := Lib.hid (OwnInts.ints (l := finL plan n) (base := W0.heap.size) (by unfold OwnInts; rw [HFL.out]; exact ownsRow.hk HM1.out.r1 hk13 (fun e => HM1.out.ne _ e rfl)) (by rw [HFL.out]; omega))
          have HI2 : Hid (IntsIn .i64 w13.heap.size w13 (.slice (some ⟨g2, 0, none⟩) q c2) (plan.set kk (z + x2 % 30))) := later_in hD13 HDD.out HCS.out HCELL.out HL.out (by omega)
          clear hD13 hk13 hs13
          have HL3 := HLE3.out kk (x2 % 30) hd0
          have HL4 := HLE4.out kk (x2 % 30) hd0
          rw [HZZ.out] at HL3 HL4
          clear c1 HDD HD1 HCT HCELL CW0
          go_wp2_with (refine wpList_load_bs rfl 25 _ rfl CW.out 0 w.heap.size #[.int .i64 m.rings, .int .i64 m.give, .int .i64 m.pl, .int .i64 m.ph, .int .i64 m.wl, .int .i64 m.wh, .int .i64 m.set, .int .i64 m.shrink, .int .i64 m.skin, .int .i64 m.fill, .int .i64 m.gap, .int .i64 m.deep] 25 rfl rfl _ Try.underlying25 rfl info25 ?_)
          refine (HA _ _ _ HI1.out).out.mono ?_
          rintro e w21 ⟨rfl, hb⟩
          have HR1 := Lib.hid (HRES.out _ ⟨HLE1.out n, HLE2.out n⟩)
          have HR2 := Lib.hid (HRES.out (plan.set kk (z + x2 % 30)) ⟨HL3, HL4⟩)
          generalize hollowV m (finL plan n) = F at *
          obtain ⟨⟨f1, f2⟩, ⟨f3, f4⟩, fe⟩ := F
          have CX := Lib.hid ((CW.out.call hb).push w21.heap.size rfl (.cells #[.int .i64 f1, .int .i64 f2, .int .i64 f3, .int .i64 f4] 45))
          have HI2 := Lib.hid (HI2.out.next (hb.alloc hb.size (.cells #[.int .i64 f1, .int .i64 f2, .int .i64 f3, .int .i64 f4] 45)))
          clear hb CW HI1
          go_wp2_with (refine wpList_load_bs rfl 25 _ rfl CX.out 0 w.heap.size #[.int .i64 m.rings, .int .i64 m.give, .int .i64 m.pl, .int .i64 m.ph, .int .i64 m.wl, .int .i64 m.wh, .int .i64 m.set, .int .i64 m.shrink, .int .i64 m.skin, .int .i64 m.fill, .int .i64 m.gap, .int .i64 m.deep] 25 rfl rfl _ Try.underlying25 rfl info25 ?_)
          refine (HA _ _ _ HI2.out).out.mono ?_
          rintro e w22 ⟨rfl, hb⟩
          generalize hollowV m (plan.set kk (z + x2 % 30)) = G at *
          obtain ⟨⟨h1, h2⟩, ⟨h3, h4⟩, he⟩ := G
          have CZ := Lib.hid ((CX.out.call hb).push w22.heap.size rfl (.cells #[.int .i64 h1, .int .i64 h2, .int .i64 h3, .int .i64 h4] 45))
          clear hb CX HI2
          have k2 := CZ.out.cell 2 rfl
          have k3 := CZ.out.cell 3 rfl
          have k4 := CZ.out.cell 4 rfl
          by_cases hfe : fe = 0
          · obtain ⟨p1, p2⟩ := HR1.out hfe
            subst hfe
            by_cases hhe : he = 0
            · obtain ⟨p4, p5⟩ := HR2.out hhe
              subst hhe
              go_wp2_with fail
              refine (awake_any _).mono ?_
              rintro e w14 ⟨rfl, hb⟩
              have HBel := Lib.hid (CZ.out.call hb).bel
              clear hb CZ k2 k3 k4
              go_wp2
              go_ret
              exact ⟨rfl, HBel.out⟩
            · have p6 : (he == 0) = false := by simpa using hhe
              clear hhe
              go_wp2_with fail
              refine (awake_any _).mono ?_
              rintro e w14 ⟨rfl, hb⟩
              have HBel := Lib.hid (CZ.out.call hb).bel
              clear hb CZ k2 k3 k4
              go_wp2
              go_ret
              exact ⟨rfl, HBel.out⟩
          · have p3 : (fe == 0) = false := by simpa using hfe
            clear hfe
            by_cases hhe : he = 0
            · obtain ⟨p4, p5⟩ := HR2.out hhe
              subst hhe
              go_wp2_with fail
              refine (awake_any _).mono ?_
              rintro e w14 ⟨rfl, hb⟩
              have HBel := Lib.hid (CZ.out.call hb).bel
              clear hb CZ k2 k3 k4
              go_wp2
              go_ret
              exact ⟨rfl, HBel.out⟩
            · have p6 : (he == 0) = false := by simpa using hhe
              clear hhe
              go_wp2_with fail
              refine (awake_any _).mono ?_
              rintro e w14 ⟨rfl, hb⟩
              have HBel := Lib.hid (CZ.out.call hb).bel
              clear hb CZ k2 k3 k4
              go_wp2
              go_ret
              exact ⟨rfl, HBel.out⟩

end Go.Proofs.Ytafdagjdpnaddaa
