/- The batch of melt: its lists' lengths. -/
import Derived.Test.YtaigbhhmmdfdcaaW9
import Derived.BigQuiet
namespace Go.Proofs.Ytaigbhhmmdfdcaa
open Go.RowKit
def bo0 (vg vb va : Value) : BO := ⟨vg, vb, va, 0, 0, fun _ => (0, 0), fun _ => (0, 0)⟩
/-- What a batch's look leaves. -/
def NextPost (B : Nat) (w : World) (s : Shop) (l : List Bat) (k gs ga : Nat) (vt vl : Value) : Ending → World → Prop := fun e w' =>
  e = .returned (.int .i64 (batchE s l k)) ∧ Below B w w' ∧ (∃ va, w'.heap[ga]? = some (.cells #[va] 103)) ∧ (batchE s l k = 0 → ∃ g bo va, MS B w (k + 1) g bo gs ga vt vl va w' ∧ ∀ i, i < k + 1 → BoOk B w s l (k + 1) i (bo i))
theorem ints_shape {k : IntKind} {B : Nat} {w : World} {v : Value} {l : List Int} (h : IntsIn k B w v l) : ∃ a c, v = .slice a l.length c ∧ l.length ≤ 1000000000000000 := by
  obtain ⟨a, c, e, h1, -⟩ := h
  exact ⟨a, c, e, h1⟩
theorem lenE {s : Shop} {l : List Bat} {k : Nat} (h : (l.getD k default).grams.length ≠ s.lots.length ∨ k < (l.getD k default).back.length ∨ (l.getD k default).added.length ≠ s.things.length) : batchE s l k = 3 := by
  unfold batchE batchE0
  rw [if_pos h]
  simp
set_option maxRecDepth 100000 in
set_option maxHeartbeats 16000000 in
theorem next_len (B : Nat) (w wr : World) (s : Shop) (l : List Bat) (k : Nat) (g : Nat → Nat) (bo : Nat → BO) (gs ga : Nat) (vt vl va vg vb vd : Value) (hv : ShopAt B w vt vl s) (hM : MS B w k g bo gs ga vt vl va wr) (hx : BatAt B w vg vb vd (l.getD k default))
    (h : (l.getD k default).grams.length ≠ s.lots.length ∨ k < (l.getD k default).back.length ∨ (l.getD k default).added.length ≠ s.things.length) :
    Calls Try.prog 95 #[.int .i64 k, .agg #[vg, vb, vd], .pointer (some ⟨gs, 0, none⟩), .pointer (some ⟨ga, 0, none⟩)] wr (NextPost B w s l k gs ga vt vl) := by
  have HE := Lib.hid (lenE h)
  obtain ⟨sa, sc, rfl, -, hnt⟩ := sl_shape hv.1
  obtain ⟨ka, kc, rfl, -, hnl⟩ := sl_shape hv.2
  obtain ⟨a1, c1, rfl, h1⟩ := ints_shape hx.1
  obtain ⟨a2, c2, rfl, h2⟩ := ints_shape hx.2.1
  obtain ⟨a3, c3, rfl, -, h3⟩ := sl_shape hx.2.2
  unfold NextPost
  rw [HE.out]
  have HM := Lib.hid hM
  clear hM hx hv HE
  generalize (l.getD k default).grams.length = n1 at *
  generalize (l.getD k default).back.length = n2 at *
  generalize (l.getD k default).added.length = n3 at *
  generalize s.lots.length = nl at *
  generalize s.things.length = nt at *
  have HM1 := Lib.hid ((HM.out.alloc (.cells #[.slice a1 n1 c1, .slice a2 n2 c2, .slice a3 n3 c3] 75)).alloc (.cells (bo0 (.slice a1 n1 c1) (.slice a2 n2 c2) (.slice a3 n3 c3)).c 111))
  have h0 := cell_of_row _ _ 0 _ _ _ HM.out.sh
  have h1 := cell_of_row _ _ 1 _ _ _ HM.out.sh
  have hgs := block_lt HM.out.sh
  have HB := Lib.hid HM1.out.bel
  rcases h with h | h
  · have hq1 : ((n1 : Int) != (nl : Int)) = true := by simp; omega
    clear h
    go_enter Try.func95, Try.ntmps95
    go_wp2_with fail
    go_quiet (fail)
    simp only [Exit.then]
    go_wp2_with fail
    go_ret
    exact ⟨rfl, below_drewN HB.out _, ⟨_, (HM1.out.drew _).al⟩, fun h => (by simp at h)⟩
  · by_cases hq : n1 = nl
    case neg =>
      have hq1 : ((n1 : Int) != (nl : Int)) = true := by simp; omega
      clear h hq
      go_enter Try.func95, Try.ntmps95
      go_wp2_with fail
      go_quiet (fail)
      simp only [Exit.then]
      go_wp2_with fail
      go_ret
      exact ⟨rfl, below_drewN HB.out _, ⟨_, (HM1.out.drew _).al⟩, fun h => (by simp at h)⟩
    subst hq
    have hq1 : ((n1 : Int) != (n1 : Int)) = false := by simp
    rcases h with h | h
    · have hq2 : decide (k < n2) = true := decide_eq_true (by omega)
      clear h
      go_enter Try.func95, Try.ntmps95
      go_wp2_with fail
      go_quiet (fail)
      simp only [Exit.then]
      go_wp2_with fail
      go_ret
      exact ⟨rfl, below_drewN HB.out _, ⟨_, (HM1.out.drew _).al⟩, fun h => (by simp at h)⟩
    · have hq3 : ((n3 : Int) != (nt : Int)) = true := by simp; omega
      clear h
      by_cases h2 : k < n2
      · have hq2 : decide (k < n2) = true := decide_eq_true (by omega)
        clear h2
        go_enter Try.func95, Try.ntmps95
        go_wp2_with fail
        go_quiet (fail)
        simp only [Exit.then]
        go_wp2_with fail
        go_ret
        exact ⟨rfl, below_drewN HB.out _, ⟨_, (HM1.out.drew _).al⟩, fun h => (by simp at h)⟩
      · have hq2 : decide (k < n2) = false := decide_eq_false (by omega)
        clear h2
        go_enter Try.func95, Try.ntmps95
        go_wp2_with fail
        go_quiet (fail)
        simp only [Exit.then]
        go_wp2_with fail
        go_ret
        exact ⟨rfl, below_drewN HB.out _, ⟨_, (HM1.out.drew _).al⟩, fun h => (by simp at h)⟩
end Go.Proofs.Ytaigbhhmmdfdcaa
