/- Truths by turns; what is left of a wick. -/
import Derived.Deep.AppendLies
import Derived.Test.YteebihcdgpfldaaGreatK8
import Derived.Test.YteebihcdgpfldaaGreatR1
import Derived.Test.YteebihcdgpfldaaGreatR2
namespace Go.Proofs.YteebihcdgpfldaaGreat
open Go.RowKit
set_option maxRecDepth 100000 in
set_option maxHeartbeats 8000000 in
/-- Weakness -/
theorem weakness_ref (s : Shop) (m : List Int) (vt vl v : Value) (w : World) (hv : ShopAt w.heap.size w vt vl s) (hm : IntsIn .i64 w.heap.size w v m) (hs : ShopOk s) (hl : m.length ≤ s.things.length) (hb : ∀ i, i < m.length → 0 ≤ m.getD i 0 ∧ m.getD i 0 ≤ 2000000000000) :
 Calls Tryz.prog 14 #[.agg #[vt, vl], v] w fun e w' => e = .returned (.int .i64 (weakS s (fun t => m.getD t 0) m.length)) ∧ Below w.heap.size w w' := by
 have HS := Lib.hid hv
 have HSO := Lib.hid hs
 have HMB := Lib.hid hb
 obtain ⟨ta, tc, rfl, -, -⟩ := sl_shape hv.1
 obtain ⟨la, lc, rfl, -, -⟩ := sl_shape hv.2
 have HM := Lib.hid hm
 obtain ⟨a, c, rfl, -⟩ := hm
 have hnt5 := hs.nt5
 have HWB : Hid (∀ k, k ≤ m.length → 0 ≤ weakS s (fun t => m.getD t 0) k ∧ weakS s (fun t => m.getD t 0) k ≤ 1000000000000000) := fun k hk => by
  have := dot_bound (fun t => (s.things.getD t default).weak * m.getD t 0) 200000000000000 k (fun i hi => by
   have := mul_bound (hs.weak i (by omega)) (hb i (by omega))
   omega)
  have e : weakS s (fun t => m.getD t 0) k = dot (fun t => (s.things.getD t default).weak * m.getD t 0) k := rfl
  rw [e]
  have hk5 : k ≤ 5 := by omega
  have : (k : Int) * 200000000000000 ≤ 1000000000000000 := by omega
  omega
 clear hv hs hb
 have C0 : Hid (Bs w [(w.heap.size, .cells #[.slice ta s.things.length tc, .slice la s.lots.length lc] 25)] _) := (Bs.nil w).push _ rfl (.cells #[.slice ta s.things.length tc, .slice la s.lots.length lc] 25)
 generalize hn : m.length = n at *
 have HN := Lib.hid hn
 clear hn
 go_enter Tryz.func14, Tryz.ntmps14
 go_wp2_with fail
 go_loopw [5, 6] (fun sv iv wr => ∃ i : Nat, sv = .int .i64 (weakS s (fun t => m.getD t 0) i) ∧ iv = .int .i64 i ∧ i ≤ n ∧ Bs w [(w.heap.size, .cells #[.slice ta s.things.length tc, .slice la s.lots.length lc] 25)] wr) (fun _ iv _ => n - (intOf iv).toNat)
 case atStart => exact ⟨0, rfl, rfl, by omega, C0.out⟩
 case round =>
  clear C0
  obtain ⟨i, rfl, rfl, hi, hbs⟩ := hrel
  have CI := Lib.hid hbs
  clear hbs
  by_cases hin : i < n
  ·have hit : i < s.things.length := by omega
   have hit2 : (i : Int) < (s.things.length : Int) := by omega
   obtain ⟨b, o, he, hbb, -, -, -, hw3, -⟩ := HS.out.1.at' hit
   cases he
   have HW3 : Hid (w.cell? ⟨b, o + i * 5 + 3, none⟩ = some (.int .i64 (s.things.getD i default).weak)) := hw3
   have HBB := Lib.hid hbb
   obtain ⟨gb, go, rfl, hgb, hgc⟩ : ∃ gb go, a = some ⟨gb, go, none⟩ ∧ gb < w.heap.size ∧ w.cell? ⟨gb, go + i, none⟩ = some (.int .i64 (m.getD i 0)) := by
    obtain ⟨a', c', e, -, h⟩ := HM.out
    simp only [Value.slice.injEq] at e
    obtain ⟨rfl, -, -⟩ := e
    rcases h with h | ⟨gb, go, rfl, h1, h2⟩
    ·have := HN.out; rw [h] at this; simp at this; omega
    ·exact ⟨gb, go, rfl, h1, h2 i (by rw [HN.out]; exact hin)⟩
   have HGB := Lib.hid hgb
   have HGC := Lib.hid hgc
   have hwk := HSO.out.weak i hit
   have hmi := HMB.out i hin
   have hsb := HWB.out i (by omega)
   have hsb2 := HWB.out (i + 1) (by omega)
   have HSS : Hid (weakS s (fun t => m.getD t 0) i + (s.things.getD i default).weak * m.getD i 0 = weakS s (fun t => m.getD t 0) (i + 1)) := rfl
   have hta : True := trivial
   clear hw3 hbb hgb hgc
   generalize (s.things.getD i default).weak = wk at *
   generalize m.getD i 0 = mi at *
   have hm1 := mul_bound hwk hmi
   have HWP : Hid (wrap64 (wk * mi) = wk * mi) := by unfold Hid wrap64; omega
   obtain ⟨P, hP⟩ : ∃ P, wk * mi = P := ⟨_, rfl⟩
   rw [hP] at HWP HSS hm1
   have HH := Lib.hid hP
   clear hP
   generalize weakS s (fun t => m.getD t 0) i = S at *
   go_wp2_with fail
   refine wp_region_inv0 (by kernel_rfl) (by kernel_rfl) (fun D w' => Bs w [(w.heap.size, .cells #[.slice (some ⟨b, o, none⟩) s.things.length tc, .slice la s.lots.length lc] 25)] w') CI.out.drew ?_
   iterate 2
    (apply obl_det
     case hrun =>
      intro D y wz hW hD R hR
      have HRR := Lib.hid hR
      clear hR
      have HW := Lib.hid hW
      clear hW hD
      go_wp2_with fail
      exact HRR.out _ HW.out
     case hnp => rfl
     case hv => first | exact ⟨_, fun _ => rfl⟩ | exact ⟨undef, fun _ => rfl⟩)
   apply obl_det
   case hrun =>
    intro D y wz hW hD R hR
    have HRR := Lib.hid hR
    clear hR
    have HW := Lib.hid hW
    have h1 := HW.out.cell 0 rfl 0
    clear hW hD
    go_wp2_with fail
    exact HRR.out _ HW.out
   case hnp => rfl
   case hv => first | exact ⟨_, fun _ => rfl⟩ | exact ⟨undef, fun _ => rfl⟩
   iterate 3
    (apply obl_det
     case hrun =>
      intro D y wz hW hD R hR
      have HRR := Lib.hid hR
      clear hR
      have HW := Lib.hid hW
      clear hW hD
      go_wp2_with fail
      exact HRR.out _ HW.out
     case hnp => rfl
     case hv => first | exact ⟨_, fun _ => rfl⟩ | exact ⟨undef, fun _ => rfl⟩)
   apply obl_det
   case hrun =>
    intro D y wz hW hD R hR
    have HRR := Lib.hid hR
    clear hR
    have HW := Lib.hid hW
    have h1 := (HW.out.bel.cell (p := ⟨b, o + i * 5 + 3, none⟩) HBB.out).trans HW3.out
    clear hW hD
    go_wp2_with fail
    exact HRR.out _ HW.out
   case hnp => rfl
   case hv => first | exact ⟨_, fun _ => rfl⟩ | exact ⟨undef, fun _ => rfl⟩
   iterate 3
    (apply obl_det
     case hrun =>
      intro D y wz hW hD R hR
      have HRR := Lib.hid hR
      clear hR
      have HW := Lib.hid hW
      clear hW hD
      go_wp2_with fail
      exact HRR.out _ HW.out
     case hnp => rfl
     case hv => first | exact ⟨_, fun _ => rfl⟩ | exact ⟨undef, fun _ => rfl⟩)
   apply obl_det
   case hrun =>
    intro D y wz hW hD R hR
    have HRR := Lib.hid hR
    clear hR
    have HW := Lib.hid hW
    have h1 := (HW.out.bel.cell (p := ⟨gb, go + i, none⟩) HGB.out).trans HGC.out
    clear hW hD
    go_wp2_with fail
    exact HRR.out _ HW.out
   case hnp => rfl
   case hv => first | exact ⟨_, fun _ => rfl⟩ | exact ⟨undef, fun _ => rfl⟩
   apply obl_det
   case hrun =>
    intro D y wz hW hD R hR
    have HRR := Lib.hid hR
    clear hR
    have HW := Lib.hid hW
    clear hW hD
    go_wp2_with fail
    rw [HH.out, HWP.out]
    exact HRR.out _ HW.out
   case hnp => rfl
   case hv => first | exact ⟨_, fun _ => rfl⟩ | exact ⟨undef, fun _ => rfl⟩
   iterate 2
    (apply obl_det
     case hrun =>
      intro D y wz hW hD R hR
      have HRR := Lib.hid hR
      clear hR
      have HW := Lib.hid hW
      clear hW hD
      go_wp2_with fail
      exact HRR.out _ HW.out
     case hnp => rfl
     case hv => first | exact ⟨_, fun _ => rfl⟩ | exact ⟨undef, fun _ => rfl⟩)
   apply obl_nil
   intro D y w8 hall hW
   have CN := Lib.hid hW
   clear hall hW
   go_wp2_with fail
   refine ⟨⟨i + 1, by rw [← HSS.out], by push_cast; rfl, by omega, CN.out⟩, ?_⟩
   simp [intOf]; omega
  ·obtain rfl : n = i := by omega
   go_wp2_with fail
   go_ret
   exact ⟨rfl, CI.out.bel⟩
end Go.Proofs.YteebihcdgpfldaaGreat
namespace Go.Proofs.YteebihcdgpfldaaGreat
open Go.RowKit
/-- A cell of two is laid among calls, and stored. -/
structure PlW (W1 : World) (new : Array Value) (d1 d2 : Bool) (y : Value) (w : World) : Prop where
 bel : Below W1.heap.size W1 w
 al : d1 = true → ∃ g, y = .pointer (some ⟨g, 0, none⟩) ∧ W1.heap.size ≤ g ∧ w.heap[g]? = some (.cells (if d2 then new else #[.int .i64 0, .int .i64 0]) 30)
theorem PlW.next {W1 w w' : World} {new : Array Value} {d1 d2 : Bool} {y : Value} (h : PlW W1 new d1 d2 y w) (hb : Below w.heap.size w w') : PlW W1 new d1 d2 y w' :=
 ⟨h.bel.trans (hb.mono h.bel.size), fun e => by
  obtain ⟨g, e1, e2, e3⟩ := h.al e
  exact ⟨g, e1, e2, block_keep e3 hb⟩⟩
end Go.Proofs.YteebihcdgpfldaaGreat
namespace Go.Proofs.YteebihcdgpfldaaGreat
open Go.RowKit
/-- Two rows of their own, amid a statement that makes both longer. -/
structure MoW (W0 : World) (x x' : Value) (c1 : Value) (k1 : Nat) (l1 : List Value) (c2 : Value) (k2 : Nat) (l2 : List Value) (d5 d6 d12 d13 : Bool) (ya yb : Value) (w : World) : Prop where
 low : Below W0.heap.size W0 w
 hs : W0.heap.size ≤ w.heap.size
 r1 : w.ownsRow W0.heap.size 3 1 c1 k1 l1
 r2 : w.ownsRow W0.heap.size 3 1 c2 k2 l2
 ne : ∀ g, c1.ownBlock = some g → c2.ownBlock ≠ some g
 s1 : d5 = true → d6 = false → ∃ b, ya = .slice (some ⟨b, 0, none⟩) 1 1 ∧ w.heap[b]? = some (.cells [x].toArray 3) ∧ c2.ownBlock ≠ some b
 s2 : d12 = true → d13 = false → ∃ b, yb = .slice (some ⟨b, 0, none⟩) 1 1 ∧ w.heap[b]? = some (.cells [x'].toArray 3) ∧ c1.ownBlock ≠ some b
section
variable {W0 w w' : World} {x x' c1 c2 ya yb : Value} {k1 k2 : Nat} {l1 l2 : List Value} {d5 d6 d12 d13 : Bool}
theorem MoW.next (h : MoW W0 x x' c1 k1 l1 c2 k2 l2 d5 d6 d12 d13 ya yb w) (hb : Below w.heap.size w w') : MoW W0 x x' c1 k1 l1 c2 k2 l2 d5 d6 d12 d13 ya yb w' :=
 ⟨h.low.trans (hb.mono h.hs), Nat.le_trans h.hs hb.size, ownsRow.below h.r1 hb, ownsRow.below h.r2 hb, h.ne, fun e1 e2 => (by obtain ⟨b, h1, h2, h3⟩ := h.s1 e1 e2; exact ⟨b, h1, block_keep h2 hb, h3⟩), fun e1 e2 => (by obtain ⟨b, h1, h2, h3⟩ := h.s2 e1 e2; exact ⟨b, h1, block_keep h2 hb, h3⟩)⟩
end
end Go.Proofs.YteebihcdgpfldaaGreat
namespace Go.Proofs.YteebihcdgpfldaaGreat
open Go.RowKit
theorem weakS_bound {s : Shop} (hs : ShopOk s) (f : Nat → Int) {n : Nat} (hn : n ≤ s.things.length) (hf : ∀ i, i < n → 0 ≤ f i ∧ f i ≤ 2000000000000) : 0 ≤ weakS s f n ∧ weakS s f n ≤ 1000000000000000 := by
 have h5 := hs.nt5
 have h := dot_bound (fun t => (s.things.getD t default).weak * f t) 200000000000000 n (fun i hi => by
  have := mul_bound (hs.weak i (by omega)) (hf i hi)
  omega)
 have e : weakS s f n = dot (fun t => (s.things.getD t default).weak * f t) n := rfl
 rw [e]
 have : (n : Int) * 200000000000000 ≤ 1000000000000000 := by omega
 omega
end Go.Proofs.YteebihcdgpfldaaGreat
namespace Go.Proofs.YteebihcdgpfldaaGreat
open Go.RowKit
/-- Turns: small numbers, read by turns. -/
structure Turns (x : List Int) : Prop where
 at' : ∀ i, 0 ≤ x.getD i 0 ∧ x.getD i 0 ≤ 4294967295
def turnV (x : List Int) (n : Nat) : Int := x.getD (n % x.length) 0
theorem turnV_bound {x : List Int} (h : Turns x) (n : Nat) : 0 ≤ turnV x n ∧ turnV x n ≤ 4294967295 := h.at' _
def amongV (p : Int × Int) (n : Int) : Int := p.1 + n % (p.2 - p.1 + 1)
theorem amongV_in {p : Int × Int} (h : p.1 ≤ p.2) (n : Int) : p.1 ≤ amongV p n ∧ amongV p n ≤ p.2 := by
 unfold amongV
 have h1 := Int.emod_nonneg n (show p.2 - p.1 + 1 ≠ 0 by omega)
 have h2 := Int.emod_lt_of_pos n (show 0 < p.2 - p.1 + 1 by omega)
 omega
set_option maxHeartbeats 4000000 in
theorem turn40 (x : List Int) (hx : Turns x) (n : Nat) (hn : n ≤ 1000000) (v : Value) (w : World) (hv : IntsIn .u32 w.heap.size w v x) :
 Calls Tryz.prog 92 #[v, .int .i64 n] w fun e w' => e = .returned (.int .i64 (turnV x n)) ∧ w = w' := by
 have HV := Lib.hid hv
 obtain ⟨a, c, rfl, hl, -⟩ := hv
 have hb := turnV_bound hx n
 have HT : Hid (turnV x n = x.getD (n % x.length) 0) := rfl
 generalize turnV x n = T at *
 by_cases h0 : x.length = 0
 ·have e : T = 0 := by rw [HT.out, List.eq_nil_of_length_eq_zero h0]; rfl
  subst e
  rw [h0]
  go_enter Tryz.func92, Tryz.ntmps92
  go_wp2_with fail
  go_ret
  exact ⟨rfl, rfl⟩
 ·have hq : ((x.length : Int) == 0) = false := by rw [beq_eq_false_iff_ne]; omega
  have hmd : (n : Int) % (x.length : Int) = ((n % x.length : Nat) : Int) := by push_cast; rfl
  have hml : n % x.length < x.length := Nat.mod_lt _ (Nat.pos_of_ne_zero h0)
  obtain ⟨b, o, rfl, hbb, hc⟩ : ∃ b o, a = some ⟨b, o, none⟩ ∧ b < w.heap.size ∧ w.cell? ⟨b, o + n % x.length, none⟩ = some (.int .u32 (x.getD (n % x.length) 0)) := by
   obtain ⟨a', c', e, -, h⟩ := HV.out
   simp only [Value.slice.injEq] at e
   obtain ⟨rfl, -, -⟩ := e
   rcases h with h | ⟨b, o, rfl, h1, h2⟩
   ·rw [h] at h0; simp at h0
   ·exact ⟨b, o, rfl, h1, h2 _ hml⟩
  rw [← HT.out] at hc
  clear HT HV
  generalize n % x.length = m at *
  go_enter Tryz.func92, Tryz.ntmps92
  go_wp2_with fail
  go_ret
  exact ⟨rfl, rfl⟩
set_option maxHeartbeats 4000000 in
theorem among49 (p : Int × Int) (n : Int) (w : World) (hp : -1000000000000000 ≤ p.1 ∧ p.1 ≤ p.2 ∧ p.2 ≤ 1000000000000000) (hn : 0 ≤ n) :
 Calls Tryz.prog 91 #[.agg #[.int .i64 p.1, .int .i64 p.2], .int .i64 n] w fun e w' => e = .returned (.int .i64 (amongV p n)) ∧ Below w.heap.size w w' := by
 have hin := amongV_in hp.2.1 n
 have HA : Hid (p.1 + n % (p.2 - p.1 + 1) = amongV p n) := rfl
 generalize amongV p n = A at *
 obtain ⟨x, y⟩ := p
 simp only at hp hin HA ⊢
 have hr1 := Int.emod_nonneg n (show y - x + 1 ≠ 0 by omega)
 have hr2 := Int.emod_lt_of_pos n (show 0 < y - x + 1 by omega)
 have C0 : Hid (Bs w [(w.heap.size, .cells #[.int .i64 x, .int .i64 y] 30)] _) := (Bs.nil w).push _ rfl (.cells #[.int .i64 x, .int .i64 y] 30)
 go_enter Tryz.func91, Tryz.ntmps91
 go_wp2_with fail
 refine wp_region_inv0 (by kernel_rfl) (by kernel_rfl) (fun D w' => Bs w [(w.heap.size, .cells #[.int .i64 x, .int .i64 y] 30)] w') C0.out.drew ?_
 apply obl_det
 case hrun =>
  intro D y wz hW hD R hR
  have HRR := Lib.hid hR
  clear hR
  have HW := Lib.hid hW
  clear hW hD
  go_wp2_with fail
  exact HRR.out _ HW.out
 case hnp => rfl
 case hv => first | exact ⟨_, fun _ => rfl⟩ | exact ⟨undef, fun _ => rfl⟩
 apply obl_det
 case hrun =>
  intro D y wz hW hD R hR
  have HRR := Lib.hid hR
  clear hR
  have HW := Lib.hid hW
  have h1 := HW.out.cell 0 rfl 0
  clear hW hD
  go_wp2_with fail
  exact HRR.out _ HW.out
 case hnp => rfl
 case hv => first | exact ⟨_, fun _ => rfl⟩ | exact ⟨undef, fun _ => rfl⟩
 iterate 2
  (apply obl_det
   case hrun =>
    intro D y wz hW hD R hR
    have HRR := Lib.hid hR
    clear hR
    have HW := Lib.hid hW
    clear hW hD
    go_wp2_with fail
    exact HRR.out _ HW.out
   case hnp => rfl
   case hv => first | exact ⟨_, fun _ => rfl⟩ | exact ⟨undef, fun _ => rfl⟩)
 apply obl_det
 case hrun =>
  intro D y wz hW hD R hR
  have HRR := Lib.hid hR
  clear hR
  have HW := Lib.hid hW
  have h1 := HW.out.cell 0 rfl 1
  clear hW hD
  go_wp2_with fail
  exact HRR.out _ HW.out
 case hnp => rfl
 case hv => first | exact ⟨_, fun _ => rfl⟩ | exact ⟨undef, fun _ => rfl⟩
 apply obl_det
 case hrun =>
  intro D y wz hW hD R hR
  have HRR := Lib.hid hR
  clear hR
  have HW := Lib.hid hW
  clear hW hD
  go_wp2_with fail
  exact HRR.out _ HW.out
 case hnp => rfl
 case hv => first | exact ⟨_, fun _ => rfl⟩ | exact ⟨undef, fun _ => rfl⟩
 apply obl_det
 case hrun =>
  intro D y wz hW hD R hR
  have HRR := Lib.hid hR
  clear hR
  have HW := Lib.hid hW
  have h1 := HW.out.cell 0 rfl 0
  clear hW hD
  go_wp2_with fail
  exact HRR.out _ HW.out
 case hnp => rfl
 case hv => first | exact ⟨_, fun _ => rfl⟩ | exact ⟨undef, fun _ => rfl⟩
 iterate 3
  (apply obl_det
   case hrun =>
    intro D y wz hW hD R hR
    have HRR := Lib.hid hR
    clear hR
    have HW := Lib.hid hW
    clear hW hD
    go_wp2_with fail
    exact HRR.out _ HW.out
   case hnp => rfl
   case hv => first | exact ⟨_, fun _ => rfl⟩ | exact ⟨undef, fun _ => rfl⟩)
 apply obl_det
 case hrun =>
  intro D y wz hW hD R hR
  have HRR := Lib.hid hR
  clear hR
  have HW := Lib.hid hW
  clear hW hD
  go_wp2_with fail
  rw [HA.out]
  exact HRR.out _ HW.out
 case hnp => rfl
 case hv => first | exact ⟨_, fun _ => rfl⟩ | exact ⟨undef, fun _ => rfl⟩
 apply obl_det
 case hrun =>
  intro D y wz hW hD R hR
  have HRR := Lib.hid hR
  clear hR
  have HW := Lib.hid hW
  clear hW hD
  go_wp2_with fail
  exact HRR.out _ HW.out
 case hnp => rfl
 case hv => first | exact ⟨_, fun _ => rfl⟩ | exact ⟨undef, fun _ => rfl⟩
 apply obl_nil
 intro D y w8 hall hW
 have HB := Lib.hid hW.bel
 clear hall hW
 go_wp2_with fail
 go_ret
 exact ⟨rfl, HB.out⟩
end Go.Proofs.YteebihcdgpfldaaGreat
namespace Go.Proofs.YteebihcdgpfldaaGreat
open Go.RowKit
/-- A number of each range, by turns. -/
def pickedV (l : List (Int × Int)) (x : List Int) (n : Nat) : List Int := (List.range l.length).map (fun i => amongV (l.getD i (0, 0)) (turnV x (n + i)))
/-- Ranges in order that fit. -/
def SpOk (l : List (Int × Int)) : Prop := ∀ i, i < l.length → -1000000000000000 ≤ (l.getD i (0, 0)).1 ∧ (l.getD i (0, 0)).1 ≤ (l.getD i (0, 0)).2 ∧ (l.getD i (0, 0)).2 ≤ 1000000000000000
end Go.Proofs.YteebihcdgpfldaaGreat
namespace Go.Proofs.YteebihcdgpfldaaGreat
open Go.RowKit
/-- The parts with which a batch comes back. -/
def backV (s : Shop) (l : List Bat) (k : Nat) : List (Int × Int) := (List.range s.things.length).map (fun t => partsV (weightV (l.getD k default)) (micV s l k t))
set_option maxRecDepth 100000 in
set_option maxHeartbeats 8000000 in
theorem back82 (s : Shop) (l : List Bat) (k : Nat) (hg : AllGood s l) (hk : k < l.length) (v u : Value) (w : World) (hv : BatsIn w.heap.size w v l) (hu : TableIn w.heap.size w u (rangesV s l)) :
 Calls Tryz.prog 54 #[v, u, .int .i64 k] w fun e w' => ∃ t, e = .returned t ∧ SpansIn w'.heap.size w' t (backV s l k) ∧ Below w.heap.size w w' := by
 have HV := Lib.hid hv
 have HU := Lib.hid hu
 have hn6 := hg.n6
 have hnt5 := hg.sh.nt5
 have HGO := Lib.hid ((bat_ok0 (batchE_zero (hg.pre k hk)).1).gramsOk hg.sh.nl6 (show k ≤ 6 by omega))
 have HPOS := Lib.hid (hg.pre.pos hg.sh hn6 (Nat.le_refl _) hk)
 have HMB := fun t => Lib.hid (mic_ok hg.sh hn6 (k := k) (fun j hj => hg.pre j (by omega)) hk t)
 obtain ⟨a, c, rfl, -, -⟩ := sl_shape hv
 obtain ⟨xa, xc, rfl, -⟩ := sl_shape hu
 clear hv hu hg
 rw [rangesV_length] at HU ⊢
 obtain ⟨tb, to, rfl, htb, rv, hrc, hsp⟩ := HU.out.at' (i := k) (by rw [rangesV_length]; exact hk)
 have hrc : w.cell? ⟨tb, to + k, none⟩ = some rv := by have h := hrc; simpa [rdSpans] using h
 have HRW : Hid ((rangesV s l).getD k default = (List.range s.things.length).map (micV s l k)) := row_eq s l hk
 rw [HRW.out] at hsp
 obtain ⟨ra, rc, rfl, -⟩ := sl_shape hsp
 have hln : ((List.range s.things.length).map (micV s l k)).length = s.things.length := by simp
 rw [hln] at hrc hsp
 have HRC := Lib.hid hrc
 have HTB := Lib.hid htb
 have HROW := Lib.hid hsp
 clear hrc hsp htb hln HRW
 obtain ⟨b, o, he, hbb, vg, vb, va, hd1, hd2, hd3, hat⟩ := HV.out.at' hk
 cases he
 have HD1 : Hid (w.cell? ⟨b, o + k * 3, none⟩ = some vg) := hd1
 have HD2 : Hid (w.cell? ⟨b, o + k * 3 + 1, none⟩ = some vb) := hd2
 have HD3 : Hid (w.cell? ⟨b, o + k * 3 + 2, none⟩ = some va) := hd3
 have HBB := Lib.hid hbb
 have HAT := Lib.hid hat
 obtain ⟨e1, f1, rfl, -⟩ := hat.1
 obtain ⟨e2, f2, rfl, -⟩ := hat.2.1
 obtain ⟨e3, f3, rfl, -⟩ := sl_shape hat.2.2
 clear hat hbb hd1 hd2 hd3
 have HWT := fun w h => Lib.hid (weight_ref (l.getD k default) (.slice e1 (l.getD k default).grams.length f1) (.slice e2 (l.getD k default).back.length f2) (.slice e3 (l.getD k default).added.length f3) w h HGO.out.1 HGO.out.2)
 obtain ⟨B, hB⟩ : ∃ B, w.heap.size = B := ⟨_, rfl⟩
 have HBW : Hid (w.heap.size = B) := hB
 have HB0 : Hid (Below B w w) := Below.refl _ _
 clear hB
 have hki : (k : Int) < (l.length : Int) := by omega
 generalize (l.getD k default).grams.length = m1 at *
 generalize (l.getD k default).back.length = m2 at *
 generalize (l.getD k default).added.length = m3 at *
 go_enter Tryz.func54, Tryz.ntmps54
 go_wp2_with fail
 go_loopw [7, 8] (fun tx iv wr => ∃ (t : Nat) (tv : Value), tv = tx ∧ iv = .int .i64 t ∧ t ≤ s.things.length ∧ Below B w wr ∧ B ≤ wr.heap.size ∧ wr.ownsRow B 30 2 tv t (spCells ((List.range t).map (fun t => partsV (weightV (l.getD k default)) (micV s l k t))))) (fun _ iv _ => s.things.length - (intOf iv).toNat)
 case atStart => exact ⟨0, _, rfl, rfl, by omega, HB0.out, Nat.le_of_eq HBW.out.symm, World.ownsRow_nil _ _ 30 2⟩
 case round =>
  clear HB0
  obtain ⟨t, tv, rfl, rfl, ht, hb, hle, hT⟩ := hrel
  have HB := Lib.hid hb
  have HT := Lib.hid hT
  have HLE := Lib.hid hle
  clear hb hT hle
  have h0 := (HB.out.cell (p := ⟨tb, to + k, none⟩) (by rw [← HBW.out]; exact HTB.out)).trans HRC.out
  by_cases htl : t < s.things.length
  ·have hti : (t : Int) < (s.things.length : Int) := by omega
   obtain ⟨br, or, rfl, hbr, hq1, hq2⟩ := HROW.out.at' (i := t) (by simpa using htl)
   have hmr : ((List.range s.things.length).map (micV s l k)).getD t default = micV s l k t := mapr_get _ _ _ htl _
   rw [hmr] at hq1 hq2
   have HQ1 : Hid (w.cell? ⟨br, or + t * 2, none⟩ = some (.int .i64 (micV s l k t).1)) := hq1
   have HQ2 : Hid (w.cell? ⟨br, or + t * 2 + 1, none⟩ = some (.int .i64 (micV s l k t).2)) := hq2
   have HBR := Lib.hid hbr
   clear hq1 hq2 hmr hbr
   have HSN : Hid ((spCells ((List.range t).map (fun t => partsV (weightV (l.getD k default)) (micV s l k t)))) ++ [.int .i64 (partsV (weightV (l.getD k default)) (micV s l k t)).1, .int .i64 (partsV (weightV (l.getD k default)) (micV s l k t)).2] = spCells ((List.range (t + 1)).map (fun t => partsV (weightV (l.getD k default)) (micV s l k t)))) := by
    unfold Hid
    rw [List.range_succ, List.map_append]
    exact (spCells_snoc _ _).symm
   have HMT := Lib.hid (HMB t).out
   have HPR := fun w => Lib.hid (parts_ref (micV s l k t).1 (micV s l k t).2 (weightV (l.getD k default)) w HMT.out.1 HMT.out.2.1 HMT.out.2.2 HPOS.out.1 HPOS.out.2)
   obtain ⟨p, hp⟩ : ∃ p, partsV (weightV (l.getD k default)) (micV s l k t) = p := ⟨_, rfl⟩
   have HPR := fun w => Lib.hid (show Calls Tryz.prog 93 _ w (fun e w' => e = .returned (.agg #[.int .i64 p.1, .int .i64 p.2]) ∧ Below w.heap.size w w') by have h := (HPR w).out; rw [show ((micV s l k t).1, (micV s l k t).2) = micV s l k t from rfl, hp] at h; exact h)
   rw [hp] at HSN
   clear hp HMT
   obtain ⟨p1, p2⟩ := p
   obtain ⟨M, hM⟩ : ∃ M, micV s l k t = M := ⟨_, rfl⟩
   rw [hM] at HQ1 HQ2 HPR
   clear hM
   obtain ⟨mc1, mc2⟩ := M
   obtain ⟨WT, hWT⟩ : ∃ WT, weightV (l.getD k default) = WT := ⟨_, rfl⟩
   simp only [hWT] at HQ1 HQ2 HPR HWT
   have HSN := HSN
   obtain ⟨ta1, tc1, htv⟩ := ownsRow_slice HT.out
   have HTV := Lib.hid htv
   have HWTE := Lib.hid hWT
   clear htv hWT
   go_wp2_with fail
   clear h0
   refine wp_region_inv1 (by kernel_rfl) (by kernel_rfl) [32, 33, 7] (fun D y w' => AppX wr (B) 30 2 (tv) (t) ((spCells ((List.range t).map (fun t => partsV (weightV (l.getD k default)) (micV s l k t))))) [.int .i64 p1, .int .i64 p2] (D 14) (D 15) (y 32) (y 33) w' ∧ (D 16 = false → y 7 = tv) ∧ (D 16 = true → y 7 = y 33)) ?_ ?F1 ?hF1 ?_
   ·exact ⟨AppX.start HT.out HLE.out, fun _ => rfl, fun h => (by cases h)⟩
   case hF1 =>
    intro y
    simp only [fill, List.foldl, Act.put, List.setIfInBounds_toArray, List.set]
    exact rfl
   apply obl_det
   case hrun =>
    intro D y wz hW hD R hR
    have HRR := Lib.hid hR
    clear hR
    have h15 : D 16 = false := hD.post _ 16 rfl (by kernel_rfl)
    refine wpList_mv rfl _ rfl (tv) (hW.2.1 h15) ?_
    have HW := Lib.hid hW
    clear hW hD
    go_wp2_with fail
    exact HRR.out _ HW.out
   case hnp => rfl
   case hv => first | exact ⟨_, fun _ => rfl⟩ | exact ⟨undef, fun _ => rfl⟩
   iterate 3
    (apply obl_det
     case hrun =>
      intro D y wz hW hD R hR
      have HRR := Lib.hid hR
      clear hR
      have HW := Lib.hid hW
      have hc2 := (cellB hW.1.bel).1
      clear hW hD
      go_wp2_with fail
      exact HRR.out _ HW.out
     case hnp => rfl
     case hv => first | exact ⟨_, fun _ => rfl⟩ | exact ⟨undef, fun _ => rfl⟩)
   apply obl_det
   case hrun =>
    intro D y wz hW hD R hR
    have HRR := Lib.hid hR
    clear hR
    have HW := Lib.hid hW
    have HZB := Lib.hid (HB.out.trans HW.out.1.bel)
    have h1 := (HZB.out.cell (p := ⟨tb, to + k, none⟩) (by rw [← HBW.out]; exact HTB.out)).trans HRC.out
    clear hW hD
    go_wp2_with fail
    exact HRR.out _ HW.out
   case hnp => rfl
   case hv => first | exact ⟨_, fun _ => rfl⟩ | exact ⟨undef, fun _ => rfl⟩
   iterate 2
    (apply obl_det
     case hrun =>
      intro D y wz hW hD R hR
      have HRR := Lib.hid hR
      clear hR
      have HW := Lib.hid hW
      have hc2 := (cellB hW.1.bel).1
      clear hW hD
      go_wp2_with fail
      exact HRR.out _ HW.out
     case hnp => rfl
     case hv => first | exact ⟨_, fun _ => rfl⟩ | exact ⟨undef, fun _ => rfl⟩)
   apply obl_det
   case hrun =>
    intro D y wz hW hD R hR
    have HRR := Lib.hid hR
    clear hR
    have HW := Lib.hid hW
    have HZB := Lib.hid (HB.out.trans HW.out.1.bel)
    have h1 := (HZB.out.cell (p := ⟨br, or + t * 2, none⟩) (by rw [← HBW.out]; exact HBR.out)).trans HQ1.out
    have h2 := (HZB.out.cell (p := ⟨br, or + t * 2 + 1, none⟩) (by rw [← HBW.out]; exact HBR.out)).trans HQ2.out
    clear hW hD
    go_wp2_with fail
    exact HRR.out _ HW.out
   case hnp => rfl
   case hv => first | exact ⟨_, fun _ => rfl⟩ | exact ⟨undef, fun _ => rfl⟩
   iterate 3
    (apply obl_det
     case hrun =>
      intro D y wz hW hD R hR
      have HRR := Lib.hid hR
      clear hR
      have HW := Lib.hid hW
      have hc2 := (cellB hW.1.bel).1
      clear hW hD
      go_wp2_with fail
      exact HRR.out _ HW.out
     case hnp => rfl
     case hv => first | exact ⟨_, fun _ => rfl⟩ | exact ⟨undef, fun _ => rfl⟩)
   apply obl_det
   case hrun =>
    intro D y wz hW hD R hR
    have HRR := Lib.hid hR
    clear hR
    have HW := Lib.hid hW
    have HZB := Lib.hid (HB.out.trans HW.out.1.bel)
    have h1 := (HZB.out.cell (p := ⟨b, o + k * 3, none⟩) (by rw [← HBW.out]; exact HBB.out)).trans HD1.out
    have h2 := (HZB.out.cell (p := ⟨b, o + k * 3 + 1, none⟩) (by rw [← HBW.out]; exact HBB.out)).trans HD2.out
    have h3 := (HZB.out.cell (p := ⟨b, o + k * 3 + 2, none⟩) (by rw [← HBW.out]; exact HBB.out)).trans HD3.out
    clear hW hD
    go_wp2_with fail
    exact HRR.out _ HW.out
   case hnp => rfl
   case hv => first | exact ⟨_, fun _ => rfl⟩ | exact ⟨undef, fun _ => rfl⟩
   apply obl_det
   case hrun =>
    intro D y wz hW hD R hR
    have HRR := Lib.hid hR
    clear hR
    have HW := Lib.hid hW
    have HZB := Lib.hid (HB.out.trans HW.out.1.bel)
    have HSZ : Hid (wr.heap.size ≤ wz.heap.size) := HW.out.1.bel.size
    clear hW hD
    go_wp2_with fail
    refine (HWT _ ((HAT.out.below (by rw [HBW.out]; exact HZB.out)).mono (by rw [HBW.out]; exact Nat.le_trans HLE.out HSZ.out))).out.mono ?_
    rintro e w' ⟨rfl, hbw⟩
    go_wp2_with fail
    exact HRR.out _ ⟨HW.out.1.call hbw, HW.out.2⟩
   case hnp => rfl
   case hv => first | exact ⟨_, fun _ => rfl⟩ | exact ⟨undef, fun _ => rfl⟩
   apply obl_det
   case hrun =>
    intro D y wz hW hD R hR
    have HRR := Lib.hid hR
    clear hR
    have HW := Lib.hid hW
    have hc2 := (cellB hW.1.bel).1
    clear hW hD
    go_wp2_with fail
    refine (HPR _).out.mono ?_
    rintro e w' ⟨rfl, hbw⟩
    go_wp2_with fail
    exact HRR.out _ ⟨HW.out.1.call hbw, HW.out.2⟩
   case hnp => rfl
   case hv => first | exact ⟨_, fun _ => rfl⟩ | exact ⟨undef, fun _ => rfl⟩
   apply obl_priv 32
   case hd => rfl
   case hp => rfl
   case hrun =>
    intro D y wz hW hD R hR
    have HRR := Lib.hid hR
    clear hR
    have h13 : D 14 = false := hD.not
    have h14 : D 15 = false := hD.post _ 15 rfl (by kernel_rfl)
    have hA := hW.1
    rw [h13, h14] at hA
    have HA := Lib.hid hA.laid
    have HV := Lib.hid hW.2
    have H14 := Lib.hid h14
    clear hA hW hD h13 h14
    go_wp2_with fail
    refine HRR.out (.slice (some ⟨wz.heap.size, 0, none⟩) 1 1) _ ?_
    show AppX wr (B) 30 2 (tv) (t) ((spCells ((List.range t).map (fun t => partsV (weightV (l.getD k default)) (micV s l k t))))) [.int .i64 p1, .int .i64 p2] true (D 15) (.slice (some ⟨wz.heap.size, 0, none⟩) 1 1) (y 33) _ ∧ (D 16 = false → y 7 = tv) ∧ (D 16 = true → y 7 = y 33)
    rw [H14.out]
    exact ⟨HA.out, HV.out⟩
   apply obl_priv 33
   case hd => rfl
   case hp => rfl
   case hrun =>
    intro D y wz hW hD R hR
    have HRR := Lib.hid hR
    clear hR
    have h14 : D 15 = false := hD.not
    have h13 : D 14 = true := hD.pre _ 14 rfl (by kernel_rfl)
    have h15 : D 16 = false := hD.post _ 16 rfl (by kernel_rfl)
    have hA := hW.1
    rw [h13, h14] at hA
    have HA := Lib.hid hA
    have HV := Lib.hid (hW.2.1 h15)
    have H13 := Lib.hid h13
    have H15 := Lib.hid h15
    have hbase := hA.le
    have ho := hA.row rfl
    obtain ⟨g, hyb, hgc⟩ := hA.lay rfl rfl
    clear hA hW hD h13 h14 h15
    obtain ⟨i0, hi0, hz0, hz1, hz2⟩ := info51'
    refine wpList_append_own _ rfl _ _ 49 rfl (B) 30 i0 (.agg #[.int .i64 0, .int .i64 0]) 2 16 Tryz.underlying49 hi0 hz0 hz1 hz2 rfl (by decide) _ _ _ rfl ho ⟨g, 0, none⟩ 1 1 [.int .i64 p1, .int .i64 p2] hyb rfl (cell_news _ _ _ _ hgc) (two_ints _ _) (by unfold maxLen; omega) (by omega) (by omega) ?_
    intro v' w12 hown12 hgrow12 _
    have HA2 := Lib.hid (HA.out.got hown12 hgrow12)
    clear ho hgc hown12 hgrow12 hi0 hz0 hz1 hz2 hyb
    go_wp2_with fail
    refine HRR.out v' _ ?_
    show AppX wr (B) 30 2 (tv) (t) ((spCells ((List.range t).map (fun t => partsV (weightV (l.getD k default)) (micV s l k t))))) [.int .i64 p1, .int .i64 p2] (D 14) true (y 32) v' _ ∧ (D 16 = false → y 7 = tv) ∧ (D 16 = true → y 7 = v')
    rw [H13.out]
    exact ⟨HA2.out, fun _ => HV.out, fun h => (by rw [H15.out] at h; cases h)⟩
   apply obl_priv 7
   case hd => rfl
   case hp => rfl
   case hrun =>
    intro D y wz hW hD R hR
    have HRR := Lib.hid hR
    clear hR
    have HA := Lib.hid hW.1
    clear hW hD
    go_wp2_with fail
    refine HRR.out (y 33) _ ?_
    show AppX wr (B) 30 2 (tv) (t) ((spCells ((List.range t).map (fun t => partsV (weightV (l.getD k default)) (micV s l k t))))) [.int .i64 p1, .int .i64 p2] (D 14) (D 15) (y 32) (y 33) _ ∧ (true = false → y 33 = tv) ∧ (true = true → y 33 = y 33)
    exact ⟨HA.out, fun h => (by cases h), fun _ => rfl⟩
   apply obl_nil
   intro D y w8 hall hW
   have h14 := hall 15 (by decide)
   have hy := hW.2.2 (hall 16 (by decide))
   have hA := hW.1
   rw [h14] at hA
   have HO8 := Lib.hid (hA.new rfl)
   have C8 := Lib.hid hA.bel
   clear hA hW hall h14
   rw [hy]
   clear hy
   generalize y 33 = yv at HO8 ⊢
   generalize y 32 = yb at ⊢
   rw [HSN.out] at HO8
   go_wp2_with fail
   refine ⟨⟨t + 1, _, rfl, by push_cast; rfl, by omega, HB.out.trans C8.out, Nat.le_trans HLE.out C8.out.size, HO8.out⟩, ?_⟩
   simp [intOf]; omega
  ·obtain rfl : t = s.things.length := by omega
   have HTF : Hid (SpansIn wr.heap.size wr tv (backV s l k)) := OwnSpans.spans (base := B) (by unfold OwnSpans backV; simpa using HT.out) (by simp [backV]; omega)
   go_wp2_with fail
   go_ret
   exact ⟨_, rfl, HTF.out, by rw [HBW.out]; exact HB.out⟩
end Go.Proofs.YteebihcdgpfldaaGreat
namespace Go.Proofs.YteebihcdgpfldaaGreat
theorem truthE_of {s : Shop} {l : List Bat} {k : Nat} {x : Tru} (h1 : x.lots.length = s.lots.length) (h2 : ∀ i, i < s.lots.length → (x.lots.getD i []).length = s.things.length) (h3 : x.back.length = (l.getD k default).back.length)
 (h4 : ∀ i, i < (l.getD k default).back.length → (x.back.getD i []).length = s.things.length) (h5 : x.added.length = s.things.length) (h6 : ∀ t, t < s.things.length → truthIn s l (rangesV s l) (l.getD k default) x t = true) : truthE s l k x = 0 := by
 have all : ∀ (m : List (List Int)) (n q : Nat), m.length = n → (∀ i, i < n → (m.getD i []).length = q) → m.all (fun y => decide (y.length = q)) = true := by
  intro m n q hm hh
  rw [List.all_eq_true]
  intro y hy
  obtain ⟨i, hi, rfl⟩ := List.mem_iff_getElem.1 hy
  have := hh i (by omega)
  rw [List.getD_eq_getElem?_getD, List.getElem?_eq_getElem hi] at this
  simpa using this
 unfold truthE lensB
 rw [all x.lots _ _ h1 h2, all x.back _ _ h3 h4]
 simp only [h1, h3, h5, decide_true, Bool.and_true, Bool.true_eq_false, if_false]
 rw [if_pos]
 rw [List.all_eq_true]
 intro t ht
 exact h6 t (List.mem_range.1 ht)
theorem truthIn_of {s : Shop} {l : List Bat} {prev : List (List (Int × Int))} {b : Bat} {x : Tru} {t : Nat} (h1 : (b.added.getD t (0, 0)).1 ≤ x.added.getD t 0 ∧ x.added.getD t 0 ≤ (b.added.getD t (0, 0)).2)
 (h2 : ∀ i, i < s.lots.length → ((s.lots.getD i default).parts.getD t (0, 0)).1 ≤ (x.lots.getD i []).getD t 0 ∧ (x.lots.getD i []).getD t 0 ≤ ((s.lots.getD i default).parts.getD t (0, 0)).2)
 (h3 : ∀ i, i < b.back.length → (partsV (weightV (l.getD i default)) ((prev.getD i []).getD t (0, 0))).1 ≤ (x.back.getD i []).getD t 0 ∧ (x.back.getD i []).getD t 0 ≤ (partsV (weightV (l.getD i default)) ((prev.getD i []).getD t (0, 0))).2) : truthIn s l prev b x t = true := by
 unfold truthIn
 simp only [Bool.and_eq_true, Bool.not_eq_true', List.all_eq_true, List.mem_range]
 exact ⟨⟨outOne_false.2 h1, fun i hi => outOne_false.2 (h2 i hi)⟩, fun i hi => outOne_false.2 (h3 i hi)⟩
/-- ANY truth, by turns. -/
def turnT (s : Shop) (l : List Bat) (k : Nat) (x : List Int) : Tru :=
 ⟨(List.range s.lots.length).map (fun i => pickedV (s.lots.getD i default).parts x (3 * i + 1)), (List.range (l.getD k default).back.length).map (fun i => pickedV (backV s l i) x (5 * i + 2)), pickedV (l.getD k default).added x 0⟩
theorem pickedV_len (l : List (Int × Int)) (x : List Int) (n : Nat) : (pickedV l x n).length = l.length := by simp [pickedV]
theorem pickedV_in {l : List (Int × Int)} {t : Nat} (ht : t < l.length) (h : (l.getD t (0, 0)).1 ≤ (l.getD t (0, 0)).2) (x : List Int) (n : Nat) : (l.getD t (0, 0)).1 ≤ (pickedV l x n).getD t 0 ∧ (pickedV l x n).getD t 0 ≤ (l.getD t (0, 0)).2 := by
 unfold pickedV
 rw [mapr_get _ _ _ ht]
 exact amongV_in h _
theorem turnT_ok {s : Shop} {l : List Bat} (h : AllGood s l) {k : Nat} (hk : k < l.length) (x : List Int) : truthE s l k (turnT s l k x) = 0 := by
 have hbo := bat_ok0 (batchE_zero (h.pre k hk)).1
 have hbl := hbo.blen
 have hbv : ∀ i t, t < s.things.length → (backV s l i).getD t (0, 0) = partsV (weightV (l.getD i default)) (micV s l i t) := fun i t ht => by unfold backV; rw [mapr_get _ _ _ ht]
 have hbn : ∀ i, (backV s l i).length = s.things.length := fun i => by simp [backV]
 refine truthE_of (by simp [turnT]) (fun i hi => ?_) (by simp [turnT]) (fun i hi => ?_) (by unfold turnT; simp only; rw [pickedV_len]; exact hbo.alen) (fun t ht => truthIn_of ?_ (fun i hi => ?_) (fun i hi => ?_))
 ·unfold turnT; simp only; rw [mapr_get _ _ _ hi, pickedV_len]; exact h.sh.plen i hi
 ·unfold turnT; simp only; rw [mapr_get _ _ _ hi, pickedV_len]; exact hbn i
 ·unfold turnT; simp only; exact pickedV_in (by rw [hbo.alen]; exact ht) (hbo.add t).2.1 x _
 ·unfold turnT; simp only; rw [mapr_get _ _ _ hi]; exact pickedV_in (by rw [h.sh.plen i hi]; exact ht) (h.sh.part i hi t).2.1 x _
 ·unfold turnT; simp only
  rw [mapr_get _ _ _ hi]
  have hp := par_ok h.sh h.n6 (k := k) (fun j hj => h.pre j (by omega)) (by omega) (show i < k by omega) t
  have := pickedV_in (l := backV s l i) (t := t) (by rw [hbn]; exact ht) (by rw [hbv i t ht]; exact hp.2.1) x (5 * i + 2)
  rw [hbv i t ht] at this
  exact this
end Go.Proofs.YteebihcdgpfldaaGreat
namespace Go.Proofs.YteebihcdgpfldaaGreat
theorem madeE_ok {s : Shop} {l : List Bat} (h : batchesE s l = 0) {k : Nat} (hk : k < l.length) {x : Tru} (hx : truthE s l k x = 0) : madeE s l k x = 0 := by
 unfold madeE
 rw [if_neg (by simp [h]), Int.toNat_natCast, hx]
 have : outOne 0 ((l.length : Int) - 1) (k : Int) = false := outOne_false.2 (by omega)
 rw [this]; rfl
theorem madeV_ok {s : Shop} {l : List Bat} (h : batchesE s l = 0) {k : Nat} (hk : k < l.length) {x : Tru} (hx : truthE s l k x = 0) : madeV s l k x = (List.range s.things.length).map (madeT s (l.getD k default) x) := by
 unfold madeV
 rw [if_neg (by simp [madeE_ok h hk hx]), Int.toNat_natCast]
theorem truthE_in {s : Shop} {l : List Bat} {k : Nat} {x : Tru} (h : truthE s l k x = 0) {t : Nat} (ht : t < s.things.length) : truthIn s l (rangesV s l) (l.getD k default) x t = true := by
 unfold truthE at h
 split at h
 ·simp at h
 split at h
 ·rename_i h2
  exact List.all_eq_true.1 h2 t (List.mem_range.2 ht)
 ·simp at h
/-- The cells by the whole table. -/
theorem cellS_ranges {s : Shop} {l : List Bat} (h : AllGood s l) {k : Nat} (hk : k < l.length) (t : Nat) (e : Bool) : cellS s l (rangesV s l) (l.getD k default) t e = cellS s l (rowsV s l k) (l.getD k default) t e := by
 have hbl := (bat_ok0 (batchE_zero (h.pre k hk)).1).blen
 unfold cellS
 congr 1
 refine dot_congr fun i hi => ?_
 unfold backT
 rw [rangesV_get s l (show i < k by omega) (by omega)]
theorem made_between {s : Shop} {l : List Bat} (h : AllGood s l) {k : Nat} (hk : k < l.length) {x : Tru} (hx : truthE s l k x = 0) {t : Nat} (ht : t < s.things.length) : (micV s l k t).1 ≤ madeT s (l.getD k default) x t ∧ madeT s (l.getD k default) x t ≤ (micV s l k t).2 := by
 have hbo := bat_ok0 (batchE_zero (h.pre k hk)).1
 have := madeT_in (truthE_in hx ht) (fun i => (hbo.gram i).1) (fun i => (hbo.back i).1)
 rw [cellS_ranges h hk, cellS_ranges h hk] at this
 rw [micV_eq s l hk, if_pos ht]
 exact this
end Go.Proofs.YteebihcdgpfldaaGreat
namespace Go.Proofs.YteebihcdgpfldaaGreat
open Go.RowKit
set_option maxRecDepth 100000 in
set_option maxHeartbeats 8000000 in
theorem picked81_own (l : List (Int × Int)) (x : List Int) (n : Nat) (hl : l.length ≤ 100) (hok : SpOk l) (hx : Turns x) (hn : n ≤ 1000) (v u : Value) (w : World) (hv : SpansIn w.heap.size w v l) (hu : IntsIn .u32 w.heap.size w u x) :
 Calls Tryz.prog 52 #[v, u, .int .i64 n] w fun e w' => ∃ t, e = .returned t ∧ OwnInts w.heap.size w' t (pickedV l x n) ∧ Below w.heap.size w w' := by
 have HV := Lib.hid hv
 have HU := Lib.hid hu
 have HOK := Lib.hid hok
 have HX := Lib.hid hx
 obtain ⟨a, c, rfl, -, -⟩ := sl_shape hv
 clear hv hu hok hx
 obtain ⟨B, hB⟩ : ∃ B, w.heap.size = B := ⟨_, rfl⟩
 have HBW : Hid (w.heap.size = B) := hB
 have HB0 : Hid (Below B w w) := Below.refl _ _
 clear hB
 go_enter Tryz.func52, Tryz.ntmps52
 go_wp2_with fail
 go_loopw [7, 8] (fun tx iv wr => ∃ (k : Nat) (tv : Value), tv = tx ∧ iv = .int .i64 k ∧ k ≤ l.length ∧ Below B w wr ∧ B ≤ wr.heap.size ∧ wr.ownsRow B 3 1 tv k (((List.range k).map (fun i => amongV (l.getD i (0, 0)) (turnV x (n + i)))).map (Value.int .i64))) (fun _ iv _ => l.length - (intOf iv).toNat)
 case atStart => exact ⟨0, _, rfl, rfl, by omega, HB0.out, Nat.le_of_eq HBW.out.symm, World.ownsRow_nil _ _ 3 1⟩
 case round =>
  clear HB0
  obtain ⟨k, tv, rfl, rfl, hk, hb, hle, hT⟩ := hrel
  have HB := Lib.hid hb
  have HT := Lib.hid hT
  have HLE := Lib.hid hle
  clear hb hT hle
  by_cases hkl : k < l.length
  ·have hki : (k : Int) < (l.length : Int) := by omega
   obtain ⟨b, o, rfl, hbb, hc1, hc2⟩ := HV.out.at' hkl
   have HC1 : Hid (wr.cell? ⟨b, o + k * 2, none⟩ = some (.int .i64 (l.getD k (0, 0)).1)) := (HB.out.cell (p := ⟨b, o + k * 2, none⟩) (by rw [← HBW.out]; exact hbb)).trans hc1
   have HC2 : Hid (wr.cell? ⟨b, o + k * 2 + 1, none⟩ = some (.int .i64 (l.getD k (0, 0)).2)) := (HB.out.cell (p := ⟨b, o + k * 2 + 1, none⟩) (by rw [← HBW.out]; exact hbb)).trans hc2
   have HBB : Hid (b < B) := by rw [← HBW.out]; exact hbb
   have HSN : Hid ((((List.range k).map (fun i => amongV (l.getD i (0, 0)) (turnV x (n + i)))).map (Value.int .i64)) ++ [.int .i64 (amongV (l.getD k (0, 0)) (turnV x (n + k)))] = ((List.range (k + 1)).map (fun i => amongV (l.getD i (0, 0)) (turnV x (n + i)))).map (Value.int .i64)) := by unfold Hid; rw [List.range_succ, List.map_append, List.map_append]; rfl
   have hpk := HOK.out k hkl
   have htb := turnV_bound HX.out (n + k)
   have HAM := fun w => Lib.hid (among49 (l.getD k (0, 0)) (turnV x (n + k)) w hpk htb.1)
   have HTU := fun w h => Lib.hid (turn40 x HX.out (n + k) (by omega) u w h)
   clear hc1 hc2 hbb
   obtain ⟨NK, hNK⟩ : ∃ NK, n + k = NK := ⟨_, rfl⟩
   have HNK : Hid (((n : Int) + (k : Int)) = (NK : Int)) := by unfold Hid; omega
   rw [hNK] at HSN htb HAM HTU
   clear hNK
   generalize amongV (l.getD k (0, 0)) (turnV x NK) = A at *
   generalize turnV x NK = T at *
   obtain ⟨p, hp⟩ : ∃ p, l.getD k (0, 0) = p := ⟨_, rfl⟩
   rw [hp] at HC1 HC2 HAM
   clear hp hpk
   obtain ⟨p1, p2⟩ := p
   simp only at HC1 HC2 HAM
   obtain ⟨ta1, tc1, htv⟩ := ownsRow_slice HT.out
   have HTV := Lib.hid htv
   clear htv
   go_wp2_with fail
   refine wp_region_inv1 (by kernel_rfl) (by kernel_rfl) [26, 27, 7] (fun D y w' => AppX wr (B) 3 1 (tv) (k) ((((List.range k).map (fun i => amongV (l.getD i (0, 0)) (turnV x (n + i)))).map (Value.int .i64))) [.int .i64 A] (D 11) (D 12) (y 26) (y 27) w' ∧ (D 13 = false → y 7 = tv) ∧ (D 13 = true → y 7 = y 27)) ?_ ?F1 ?hF1 ?_
   ·exact ⟨AppX.start HT.out HLE.out, fun _ => rfl, fun h => (by cases h)⟩
   case hF1 =>
    intro y
    simp only [fill, List.foldl, Act.put, List.setIfInBounds_toArray, List.set]
    exact rfl
   apply obl_det
   case hrun =>
    intro D y wz hW hD R hR
    have HRR := Lib.hid hR
    clear hR
    have h15 : D 13 = false := hD.post _ 13 rfl (by kernel_rfl)
    refine wpList_mv rfl _ rfl (tv) (hW.2.1 h15) ?_
    have HW := Lib.hid hW
    clear hW hD
    go_wp2_with fail
    exact HRR.out _ HW.out
   case hnp => rfl
   case hv => first | exact ⟨_, fun _ => rfl⟩ | exact ⟨undef, fun _ => rfl⟩
   iterate 3
    (apply obl_det
     case hrun =>
      intro D y wz hW hD R hR
      have HRR := Lib.hid hR
      clear hR
      have HW := Lib.hid hW
      have hc2 := (cellB hW.1.bel).1
      clear hW hD
      go_wp2_with fail
      exact HRR.out _ HW.out
     case hnp => rfl
     case hv => first | exact ⟨_, fun _ => rfl⟩ | exact ⟨undef, fun _ => rfl⟩)
   apply obl_det
   case hrun =>
    intro D y wz hW hD R hR
    have HRR := Lib.hid hR
    clear hR
    have HW := Lib.hid hW
    have hc1 := (HW.out.1.bel.cell (p := ⟨b, o + k * 2, none⟩) HBB.out).trans HC1.out
    have hc2 := (HW.out.1.bel.cell (p := ⟨b, o + k * 2 + 1, none⟩) HBB.out).trans HC2.out
    clear hW hD
    go_wp2_with fail
    exact HRR.out _ HW.out
   case hnp => rfl
   case hv => first | exact ⟨_, fun _ => rfl⟩ | exact ⟨undef, fun _ => rfl⟩
   iterate 3
    (apply obl_det
     case hrun =>
      intro D y wz hW hD R hR
      have HRR := Lib.hid hR
      clear hR
      have HW := Lib.hid hW
      have hc2 := (cellB hW.1.bel).1
      clear hW hD
      go_wp2_with fail
      exact HRR.out _ HW.out
     case hnp => rfl
     case hv => first | exact ⟨_, fun _ => rfl⟩ | exact ⟨undef, fun _ => rfl⟩)
   apply obl_det
   case hrun =>
    intro D y wz hW hD R hR
    have HRR := Lib.hid hR
    clear hR
    have HW := Lib.hid hW
    have hc2 := (cellB hW.1.bel).1
    clear hW hD
    go_wp2_with fail
    rw [HNK.out]
    exact HRR.out _ HW.out
   case hnp => rfl
   case hv => first | exact ⟨_, fun _ => rfl⟩ | exact ⟨undef, fun _ => rfl⟩
   apply obl_det
   case hrun =>
    intro D y wz hW hD R hR
    have HRR := Lib.hid hR
    clear hR
    have HW := Lib.hid hW
    have HSZ := Lib.hid HW.out.1.bel.size
    clear hW hD
    have HZB := Lib.hid (HB.out.trans HW.out.1.bel)
    have HUZ : Hid (IntsIn .u32 wz.heap.size wz u x) := (IntsIn.below HU.out (by rw [HBW.out]; exact HZB.out)).mono (by rw [HBW.out]; exact Nat.le_trans HLE.out (Nat.le_trans (Nat.le_refl _) HSZ.out))
    go_wp2_with fail
    refine (HTU _ HUZ.out).out.mono ?_
    rintro e w' ⟨rfl, rfl⟩
    go_wp2_with fail
    exact HRR.out _ HW.out
   case hnp => rfl
   case hv => first | exact ⟨_, fun _ => rfl⟩ | exact ⟨undef, fun _ => rfl⟩
   apply obl_det
   case hrun =>
    intro D y wz hW hD R hR
    have HRR := Lib.hid hR
    clear hR
    have HW := Lib.hid hW
    have hc2 := (cellB hW.1.bel).1
    clear hW hD
    go_wp2_with fail
    refine (HAM _).out.mono ?_
    rintro e w' ⟨rfl, hbw⟩
    go_wp2_with fail
    exact HRR.out _ ⟨HW.out.1.call hbw, HW.out.2⟩
   case hnp => rfl
   case hv => first | exact ⟨_, fun _ => rfl⟩ | exact ⟨undef, fun _ => rfl⟩
   apply obl_priv 26
   case hd => rfl
   case hp => rfl
   case hrun =>
    intro D y wz hW hD R hR
    have HRR := Lib.hid hR
    clear hR
    have h13 : D 11 = false := hD.not
    have h14 : D 12 = false := hD.post _ 12 rfl (by kernel_rfl)
    have hA := hW.1
    rw [h13, h14] at hA
    have HA := Lib.hid hA.laid
    have HV := Lib.hid hW.2
    have H14 := Lib.hid h14
    clear hA hW hD h13 h14
    go_wp2_with fail
    refine HRR.out (.slice (some ⟨wz.heap.size, 0, none⟩) 1 1) _ ?_
    show AppX wr (B) 3 1 (tv) (k) ((((List.range k).map (fun i => amongV (l.getD i (0, 0)) (turnV x (n + i)))).map (Value.int .i64))) [.int .i64 A] true (D 12) (.slice (some ⟨wz.heap.size, 0, none⟩) 1 1) (y 27) _ ∧ (D 13 = false → y 7 = tv) ∧ (D 13 = true → y 7 = y 27)
    rw [H14.out]
    exact ⟨HA.out, HV.out⟩
   apply obl_priv 27
   case hd => rfl
   case hp => rfl
   case hrun =>
    intro D y wz hW hD R hR
    have HRR := Lib.hid hR
    clear hR
    have h14 : D 12 = false := hD.not
    have h13 : D 11 = true := hD.pre _ 11 rfl (by kernel_rfl)
    have h15 : D 13 = false := hD.post _ 13 rfl (by kernel_rfl)
    have hA := hW.1
    rw [h13, h14] at hA
    have HA := Lib.hid hA
    have HV := Lib.hid (hW.2.1 h15)
    have H13 := Lib.hid h13
    have H15 := Lib.hid h15
    have hbase := hA.le
    have ho := hA.row rfl
    obtain ⟨g, hyb, hgc⟩ := hA.lay rfl rfl
    clear hA hW hD h13 h14 h15
    obtain ⟨i0, hi0, hz0, hz1, hz2⟩ := info3'
    refine wpList_append_own _ rfl _ _ 54 rfl (B) 3 i0 (.int .i64 0) 1 8 Tryz.underlying54 hi0 hz0 hz1 hz2 rfl (by decide) _ _ _ rfl ho ⟨g, 0, none⟩ 1 1 [.int .i64 A] hyb rfl (cell_news _ _ _ _ hgc) (one_int _) (by unfold maxLen; omega) (by omega) (by omega) ?_
    intro v' w12 hown12 hgrow12 _
    have HA2 := Lib.hid (HA.out.got hown12 hgrow12)
    clear ho hgc hown12 hgrow12 hi0 hz0 hz1 hz2 hyb
    go_wp2_with fail
    refine HRR.out v' _ ?_
    show AppX wr (B) 3 1 (tv) (k) ((((List.range k).map (fun i => amongV (l.getD i (0, 0)) (turnV x (n + i)))).map (Value.int .i64))) [.int .i64 A] (D 11) true (y 26) v' _ ∧ (D 13 = false → y 7 = tv) ∧ (D 13 = true → y 7 = v')
    rw [H13.out]
    exact ⟨HA2.out, fun _ => HV.out, fun h => (by rw [H15.out] at h; cases h)⟩
   apply obl_priv 7
   case hd => rfl
   case hp => rfl
   case hrun =>
    intro D y wz hW hD R hR
    have HRR := Lib.hid hR
    clear hR
    have HA := Lib.hid hW.1
    clear hW hD
    go_wp2_with fail
    refine HRR.out (y 27) _ ?_
    show AppX wr (B) 3 1 (tv) (k) ((((List.range k).map (fun i => amongV (l.getD i (0, 0)) (turnV x (n + i)))).map (Value.int .i64))) [.int .i64 A] (D 11) (D 12) (y 26) (y 27) _ ∧ (true = false → y 27 = tv) ∧ (true = true → y 27 = y 27)
    exact ⟨HA.out, fun h => (by cases h), fun _ => rfl⟩
   apply obl_nil
   intro D y w8 hall hW
   have h14 := hall 12 (by decide)
   have hy := hW.2.2 (hall 13 (by decide))
   have hA := hW.1
   rw [h14] at hA
   have HO8 := Lib.hid (hA.new rfl)
   have C8 := Lib.hid hA.bel
   clear hA hW hall h14
   rw [hy]
   clear hy
   generalize y 27 = yv at HO8 ⊢
   generalize y 26 = yb at ⊢
   rw [HSN.out] at HO8
   go_wp2_with fail
   refine ⟨⟨k + 1, _, rfl, by push_cast; rfl, by omega, HB.out.trans C8.out, Nat.le_trans HLE.out C8.out.size, HO8.out⟩, ?_⟩
   simp [intOf]; omega
  ·obtain rfl : k = l.length := by omega
   have HTF : Hid (OwnInts w.heap.size wr tv (pickedV l x n)) := by unfold Hid OwnInts pickedV; rw [HBW.out]; simpa using HT.out
   go_wp2_with fail
   go_ret
   exact ⟨_, rfl, HTF.out, by rw [HBW.out]; exact HB.out⟩
end Go.Proofs.YteebihcdgpfldaaGreat
namespace Go.Proofs.YteebihcdgpfldaaGreat
open Go.RowKit
/-- A row of lists of ints. -/
structure OwnLists (base : Nat) (w : World) (v : Value) (n : Nat) (us : List Value) (f : Nat → List Int) : Prop where
 len : us.length = n
 row : w.ownsRow base 54 1 v n us
 each : ∀ i, i < n → OwnInts base w (us.getD i .nilFunc) (f i)
theorem OwnLists.call {base : Nat} {w w' : World} {v : Value} {n : Nat} {us : List Value} {f : Nat → List Int} (h : OwnLists base w v n us f) (hb : Below w.heap.size w w') : OwnLists base w' v n us f :=
 ⟨h.len, ownsRow.below h.row hb, fun i hi => ownsRow.below (h.each i hi) hb⟩
theorem OwnLists.more {base : Nat} {w w' : World} {v v' u : Value} {n : Nat} {us : List Value} {f : Nat → List Int} (h : OwnLists base w v n us f) (hu : OwnInts base w u (f n)) (hown : w'.ownsRow base 54 1 v' (n + 1) (us ++ [u])) (hg : w.grownBy w' v.ownBlock) :
 OwnLists base w' v' (n + 1) (us ++ [u]) f := by
 refine ⟨by simp [h.len], hown, fun i hi => ?_⟩
 by_cases hin : i < n
 ·have e : (us ++ [u]).getD i .nilFunc = us.getD i .nilFunc := by
   rw [List.getD_eq_getElem?_getD, List.getElem?_append_left (by rw [h.len]; exact hin), List.getD_eq_getElem?_getD]
  rw [e]
  exact ownsRow.grown2 (h.each i hin) h.row hg (by decide)
 ·obtain rfl : i = n := by omega
  have e : (us ++ [u]).getD i .nilFunc = u := by
   rw [List.getD_eq_getElem?_getD, List.getElem?_append_right (by rw [h.len]; exact Nat.le_refl _), h.len, Nat.sub_self]
   rfl
  rw [e]
  exact ownsRow.grown2 hu h.row hg (by decide)
theorem OwnLists.lists {base : Nat} {w : World} {v : Value} {n : Nat} {us : List Value} {f : Nat → List Int} (h : OwnLists base w v n us f) (hn : n ≤ 1000) (hf : ∀ i, i < n → (f i).length ≤ 1000) (l : List (List Int)) (hl : l.length = n) (he : ∀ i, i < n → l.getD i [] = f i) : IntsLIn w.heap.size w v l := by
 subst hl
 obtain ⟨_, h2⟩ := h.row
 rcases h2 with ⟨rfl, h0⟩ | ⟨g, cap, cur, rfl, hb, hg, hnn, hm, hc, ht⟩
 ·have : l = [] := List.eq_nil_of_length_eq_zero h0
  subst this
  exact ⟨none, 0, rfl, by simp, by simp, .inl rfl⟩
 ·refine ⟨_, cap, rfl, by omega, hnn, .inr ⟨g, 0, rfl, block_lt hg, fun i hi => ⟨us.getD i .nilFunc, ?_, ?_⟩⟩⟩
  ·have e : (cur.toList.take (l.length * 1))[i]? = us[i]? := by rw [ht]
   rw [List.getElem?_take, if_pos (by omega)] at e
   show w.cell? ⟨g, 0 + i * 1, none⟩ = _
   rw [cell_of_row w g _ _ _ _ hg, Nat.zero_add, Nat.mul_one, ← Array.getElem?_toList, e, List.getD_eq_getElem?_getD, List.getElem?_eq_getElem (by rw [h.len]; exact hi)]
   rfl
  ·have := (h.each i hi).ints (by have := hf i hi; omega)
   rw [← he i hi] at this
   exact this
theorem OwnLists.but {base : Nat} {w w' : World} {v : Value} {n : Nat} {us : List Value} {f : Nat → List Int} (h : OwnLists base w v n us f) {g : Nat} (hb : But g w w') {cs : Array Value} {t : TypeId} (hg : w.heap[g]? = some (.cells cs t)) (h1 : t ≠ 54) (h2 : t ≠ 3) : OwnLists base w' v n us f :=
 ⟨h.len, ownsRow.but h.row hb hg h1, fun i hi => ownsRow.but (h.each i hi) hb hg h2⟩
/-- Blocks stay where a row of another type grows. -/
theorem Bs.grown {w0 w w' : World} {l : List (Nat × Obj)} {base sz n : Nat} {e : TypeId} {v : Value} {xs : List Value} (h : Bs w0 l w) (ho : w.ownsRow base e sz v n xs) (hg : w.grownBy w' v.ownBlock) (hb : w0.heap.size ≤ base) (hl : ∀ p ∈ l, ∃ cs t, p.2 = .cells cs t ∧ t ≠ e) : Bs w0 l w' := by
 refine ⟨fun p hp => ?_, h.inc, h.ge, h.bel.trans (grown_below ho hg hb h.bel.size)⟩
 obtain ⟨cs, t, e1, e2⟩ := hl p hp
 have h1 := h.get' p hp
 rw [e1] at h1 ⊢
 exact grown_keep ho hg h1 e2
end Go.Proofs.YteebihcdgpfldaaGreat
namespace Go.Proofs.YteebihcdgpfldaaGreat
open Go.RowKit
theorem info36' : ∃ i, Tryz.prog.info? 54 = some i ∧ i.zero = some (.slice none 0 0) ∧ i.size = 1 ∧ i.bytes = 24 := by
 obtain ⟨i, h1, h2⟩ := Option.map_eq_some_iff.1 (show (Tryz.prog.info? 54).map (fun i => (i.zero, i.size, i.bytes)) = some (some (.slice none 0 0), 1, 24) by kernel_rfl)
 simp only [Prod.mk.injEq] at h2
 exact ⟨i, h1, h2⟩
theorem info42 : (Tryz.prog.info? 58).map (·.size) = some 1 := by kernel_rfl
theorem But.grow {g : Nat} {W w w' : World} (h : But g W w) (hb : Below W.heap.size w w') : But g W w' :=
 ⟨hb.os.trans h.os, hb.tape.trans h.tape, hb.output.trans h.output, Nat.le_trans h.size hb.size, fun k hk hg => (hb.block k hk).trans (h.block k hk hg)⟩
theorem OwnTable.but {base : Nat} {w w' : World} {v : Value} {n : Nat} {us : List Value} {f : Nat → List (Int × Int)} (h : OwnTable base w v n us f) {g : Nat} (hb : But g w w') {cs : Array Value} {t : TypeId} (hg : w.heap[g]? = some (.cells cs t)) (h1 : t ≠ 49) (h2 : t ≠ 30) : OwnTable base w' v n us f :=
 ⟨h.len, ownsRow.but h.row hb hg h1, fun i hi => ownsRow.but (h.each i hi) hb hg h2⟩
/-- A row is stored: the blocks, and all others. -/
theorem wpList_store_bb {P : Program} {ops : Array Oper} {rest : List Oper} {o : Oper} {a : Act} {w0 w : World} {Q : Exit → Act → World → Prop} {l : List (Nat × Obj)} (hgd : o.guard = none) (ty : TypeId) (x y : Operand) (ho : o.op = .store ty x y) (H : Bs w0 l w) (i g : Nat) (cells old : Array Value) (t : TypeId) (hi : l[i]? = some (g, .cells old t))
 (hx : a.eval x = .pointer (some ⟨g, 0, none⟩)) (hy : a.eval y = .agg cells) (hn : (P.info? ty).map (·.size) = some cells.size) (hold : old.size = cells.size) (h1 : cells.all (·.oneCell') = true)
 (h : ∀ w', Bs w0 (l.set i (g, .cells cells t)) w' → But g w w' → wpList P ops Q rest (a.put o.dst undef) w') : wpList P ops Q (o :: rest) a w :=
 have hb := below_setRow (Below.refl 0 w) (Nat.zero_le g) cells
 wpList_store_row hgd ty x y ho g cells hx hy t old (H.get i hi) hn hold h1 (h _ (H.setRow i hi cells) ⟨hb.os, hb.tape, hb.output, hb.size, fun k _ hk => setRow_other w g k cells hk⟩)
end Go.Proofs.YteebihcdgpfldaaGreat
namespace Go.Proofs.YteebihcdgpfldaaGreat
open Go.RowKit
theorem spOk_part {s : Shop} (h : ShopOk s) {i : Nat} (hi : i < s.lots.length) : SpOk (s.lots.getD i default).parts := fun t _ => by have := h.part i hi t; omega
theorem spOk_added {s : Shop} {l : List Bat} {k : Nat} (h : BatOk0 s l k) : SpOk (l.getD k default).added := fun t _ => by have := h.add t; omega
theorem spOk_back {s : Shop} {l : List Bat} (h : AllGood s l) {i k : Nat} (hi : i < k) (hk : k < l.length) : SpOk (backV s l i) := fun t ht => by
 have ht' : t < s.things.length := by simpa [backV] using ht
 have hp := par_ok h.sh h.n6 (k := k) (fun j hj => h.pre j (by omega)) (by omega) hi t
 unfold parV at hp
 unfold backV
 rw [mapr_get _ _ _ ht']
 omega
set_option maxRecDepth 100000 in
set_option maxHeartbeats 16000000 in
theorem truth41 (s : Shop) (l : List Bat) (k : Nat) (x : List Int) (hx : Turns x) (hg : AllGood s l) (hk : k < l.length) (vt vl v vx : Value) (w : World) (hv : ShopAt w.heap.size w vt vl s) (hl' : BatsIn w.heap.size w v l) (hvx : IntsIn .u32 w.heap.size w vx x) :
 Calls Tryz.prog 11 #[.agg #[vt, vl], v, .int .i64 k, vx] w fun e w' => ∃ t, e = .returned t ∧ IsTru (turnT s l k x) w' t ∧ Below w.heap.size w w' := by
 have HS := Lib.hid hv
 have HL := Lib.hid hl'
 have HG := Lib.hid hg
 have HX := Lib.hid hx
 have HVX := Lib.hid hvx
 obtain ⟨ax, cx, rfl, -⟩ := hvx
 clear hx
 obtain ⟨ta, tc, rfl, -, -⟩ := sl_shape hv.1
 obtain ⟨la, lc, rfl, -, -⟩ := sl_shape hv.2
 obtain ⟨a, c, rfl, -, -⟩ := sl_shape hl'
 clear hv hl'
 have hn6 := hg.n6
 have hnt5 := hg.sh.nt5
 have hnl6 := hg.sh.nl6
 have HBO := Lib.hid (bat_ok0 (batchE_zero (hg.pre k hk)).1)
 clear hg
 have C0 : Hid (Bs w [(w.heap.size, .cells #[.slice ta s.things.length tc, .slice la s.lots.length lc] 25), (w.heap.size + 1, .cells #[.slice none 0 0, .slice none 0 0, .slice none 0 0] 60)] _) := ((Bs.nil w).push _ rfl (.cells #[.slice ta s.things.length tc, .slice la s.lots.length lc] 25)).push (w.heap.size + 1) (by simp) (.cells #[.slice none 0 0, .slice none 0 0, .slice none 0 0] 60)
 have hki : (k : Int) < (l.length : Int) := by omega
 obtain ⟨b, o, he, hbb, vg, vb, va, hd1, hd2, hd3, hat⟩ := HL.out.at' hk
 cases he
 have HD2 : Hid (w.cell? ⟨b, o + k * 3 + 1, none⟩ = some vb) := hd2
 have HD3 : Hid (w.cell? ⟨b, o + k * 3 + 2, none⟩ = some va) := hd3
 have HBB := Lib.hid hbb
 have HAB := Lib.hid hat.2.1
 have HAA := Lib.hid hat.2.2
 clear hd1 hd2 hd3 hat hbb
 obtain ⟨a3, c3, rfl, -⟩ := sl_shape HAA.out
 obtain ⟨a2, c2, rfl, -⟩ := HAB.out
 have HAL : Hid ((l.getD k default).added.length = s.things.length) := HBO.out.alen
 rw [HAL.out] at HD3 HAA
 obtain ⟨nb, hnb⟩ : ∃ nb, (l.getD k default).back.length = nb := ⟨_, rfl⟩
 rw [hnb] at HD2 HAB
 have HNB := Lib.hid hnb
 clear hnb
 have h3 := (C0.out.bel.cell (p := ⟨b, o + k * 3 + 2, none⟩) HBB.out).trans HD3.out
 have HE := Lib.hid (picked81_own (l.getD k default).added x 0 (by rw [HBO.out.alen]; omega) (spOk_added HBO.out) HX.out (by omega) _ (.slice ax x.length cx) _ ((HAA.out.below C0.out.bel).mono C0.out.bel.size) ((HVX.out.below C0.out.bel).mono C0.out.bel.size))
 go_enter Tryz.func11, Tryz.ntmps11
 go_wp2_with fail
 refine HE.out.mono ?_
 rintro e w1 ⟨u, rfl, hu, hb⟩
 have C1 := Lib.hid (C0.out.call hb)
 have HU : Hid (OwnInts w.heap.size w1 u (pickedV (l.getD k default).added x 0)) := ownsRow.le hu C0.out.bel.size
 clear hb hu C0 h3 HE
 obtain ⟨ua, uc, rfl⟩ : ∃ a c, u = .slice a s.things.length c := by
  obtain ⟨a, c, e⟩ := ownsRow_slice HU.out
  rw [pickedV_len, HAL.out] at e
  exact ⟨a, c, e⟩
 have C2 := Lib.hid (C1.out.push _ rfl (.cells #[.slice none 0 0, .slice none 0 0, .slice ua s.things.length uc] 60))
 have HU2 : Hid (OwnInts w.heap.size (w1.alloc (.cells #[.slice none 0 0, .slice none 0 0, .slice ua s.things.length uc] 60)) (.slice ua s.things.length uc) (pickedV (l.getD k default).added x 0)) := ownsRow.below HU.out (ba_allocB w1 _)
 go_wp2_with fail
 obtain ⟨G, hG⟩ : ∃ G, w1.heap.size = G := ⟨_, rfl⟩
 obtain ⟨W2, hW2⟩ : ∃ W, w1.alloc (.cells #[.slice none 0 0, .slice none 0 0, .slice ua s.things.length uc] 60) = W := ⟨_, rfl⟩
 rw [hG, hW2] at C2
 rw [hW2] at HU2
 rw [hW2]
 try rw [hG]
 clear hW2 hG HU C1
 obtain ⟨B, hB⟩ : ∃ B, W2.heap.size = B := ⟨_, rfl⟩
 have HBW : Hid (W2.heap.size = B) := hB
 clear hB
 have HL0 : Hid (OwnLists B W2 (.slice none 0 0) 0 [] (fun i => pickedV (s.lots.getD i default).parts x (3 * i + 1))) := ⟨rfl, World.ownsRow_nil _ _ 54 1, fun i hi => by omega⟩
 have HBG : Hid (w.heap.size ≤ B) := by rw [← HBW.out]; exact C2.out.bel.size
 obtain ⟨i0, hi0, hz0, hz1, hz2⟩ := info36'
 have HI0 := Lib.hid hi0
 have HZ0 := Lib.hid hz0
 have HZ1 := Lib.hid hz1
 have HZ2 := Lib.hid hz2
 clear hi0 hz0 hz1 hz2
 go_loopw [10] (fun iv wr => ∃ (i : Nat) (v1 : Value) (us : List Value), iv = .int .i64 i ∧ i ≤ s.lots.length ∧ Bs w [(w.heap.size, .cells #[.slice ta s.things.length tc, .slice la s.lots.length lc] 25), (w.heap.size + 1, .cells #[.slice none 0 0, .slice none 0 0, .slice none 0 0] 60), (G, .cells #[v1, .slice none 0 0, .slice ua s.things.length uc] 60)] wr ∧ B ≤ wr.heap.size ∧ OwnLists B wr v1 i us (fun i => pickedV (s.lots.getD i default).parts x (3 * i + 1)) ∧ OwnInts w.heap.size wr (.slice ua s.things.length uc) (pickedV (l.getD k default).added x 0)) (fun iv _ => s.lots.length - (intOf iv).toNat)
 case atStart => exact ⟨0, _, [], rfl, by omega, C2.out, Nat.le_of_eq HBW.out.symm, HL0.out, HU2.out⟩
 case round =>
  clear C2 HL0 HU2
  obtain ⟨i, v1, us, rfl, hi, hbs, hle, hls, hu⟩ := hrel
  have CI := Lib.hid hbs
  have HLE := Lib.hid hle
  have HLS := Lib.hid hls
  have HU := Lib.hid hu
  clear hbs hle hls hu
  have hcb1 := CI.out.cell 0 rfl 1
  by_cases hil : i < s.lots.length
  ·have hii : (i : Int) < (s.lots.length : Int) := by omega
   obtain ⟨bl, ol, he, hbl, -, -, pv, hp1, hsp⟩ := HS.out.2.at' hil
   cases he
   have h1 := (CI.out.bel.cell (p := ⟨bl, ol + i * 2 + 1, none⟩) hbl).trans hp1
   have HE := Lib.hid (picked81_own (s.lots.getD i default).parts x (3 * i + 1) (by rw [HG.out.sh.plen i hil]; omega) (spOk_part HG.out.sh hil) HX.out (by omega) pv (.slice ax x.length cx) wr ((hsp.below CI.out.bel).mono CI.out.bel.size) ((HVX.out.below CI.out.bel).mono CI.out.bel.size))
   obtain ⟨pa, pc, rfl, -⟩ := sl_shape hsp
   have HPL := Lib.hid (HG.out.sh.plen i hil)
   rw [HPL.out] at h1 HE
   clear hp1 hsp hbl
   obtain ⟨va1, vc1, rfl⟩ := ownsRow_slice HLS.out.row
   have HN3 : Hid ((3 : Int) * (i : Int) + 1 = ((3 * i + 1 : Nat) : Int)) := by unfold Hid; push_cast; rfl
   have hi6 : i ≤ 6 := by omega
   go_wp2_with fail
   rw [HN3.out]
   refine HE.out.mono ?_
   rintro e w3 ⟨y, rfl, hy, hb⟩
   have CJ := Lib.hid (CI.out.call hb)
   have HLE3 : Hid (B ≤ w3.heap.size) := Nat.le_trans HLE.out hb.size
   have HLS3 := Lib.hid (OwnLists.call HLS.out hb)
   have HU3 : Hid (OwnInts w.heap.size w3 (.slice ua s.things.length uc) (pickedV (l.getD k default).added x 0)) := ownsRow.below HU.out hb
   have HY : Hid (OwnInts B w3 y (pickedV (s.lots.getD i default).parts x (3 * i + 1))) := ownsRow.le hy HLE.out
   clear hb hy h1 HE CI HLE HLS HU hcb1
   obtain ⟨ya, yc, rfl⟩ : ∃ a c, y = .slice a s.things.length c := by
    obtain ⟨a, c, e⟩ := ownsRow_slice HY.out
    rw [pickedV_len, HPL.out] at e
    exact ⟨a, c, e⟩
   have CK := Lib.hid (CJ.out.alloc (.cells #[.slice ya s.things.length yc] 54))
   have HLS4 := Lib.hid (OwnLists.call HLS3.out (ba_allocB w3 (.cells #[.slice ya s.things.length yc] 54)))
   have HY4 : Hid (OwnInts B (w3.alloc (.cells #[.slice ya s.things.length yc] 54)) (.slice ya s.things.length yc) (pickedV (s.lots.getD i default).parts x (3 * i + 1))) := ownsRow.below HY.out (ba_allocB w3 _)
   have HU4 : Hid (OwnInts w.heap.size (w3.alloc (.cells #[.slice ya s.things.length yc] 54)) (.slice ua s.things.length uc) (pickedV (l.getD k default).added x 0)) := ownsRow.below HU3.out (ba_allocB w3 _)
   have HLE4 : Hid (B ≤ (w3.alloc (.cells #[.slice ya s.things.length yc] 54)).heap.size) := Nat.le_trans HLE3.out (ba_allocB w3 _).size
   have HNW := Lib.hid (heap_alloc_new w3 (.cells #[.slice ya s.things.length yc] 54))
   have hf0 := CJ.out.cell 2 rfl 0
   go_wp2_with (first | (refine wpList_cell_bb rfl 58 _ _ rfl CL.out 2 G 0 _ 60 rfl rfl _ rfl (by simp) rfl info42 ?_; intro w13 hC13 hB13) | (at_builtin; refine wpList_append_own _ rfl _ _ 58 rfl B 54 i0 (.slice none 0 0) 1 24 Tryz.underlying58 HI0.out HZ0.out HZ1.out HZ2.out rfl (by decide) _ _ _ rfl HLS4.out.row ⟨w3.heap.size, 0, none⟩ 1 1 [.slice ya s.things.length yc] rfl rfl (cell_news _ _ _ _ HNW.out) (one_of _ rfl) (by unfold maxLen; omega) (by omega) HLE4.out ?_; intro v' w12 hown12 hgrow12 _; obtain ⟨xa1, xc1, rfl⟩ := ownsRow_slice hown12; have CL := Lib.hid (Bs.grown CK.out HLS4.out.row hgrow12 HBG.out (by intro p hp; simp only [List.mem_cons, List.not_mem_nil, or_false] at hp; rcases hp with rfl | rfl | rfl <;> exact ⟨_, _, rfl, by decide⟩)); have HLS5 := Lib.hid (OwnLists.more HLS4.out HY4.out hown12 hgrow12); have HU5 : Hid (OwnInts w.heap.size w12 (.slice ua s.things.length uc) (pickedV (l.getD k default).added x 0)) := ownsRow.grown2 HU4.out HLS4.out.row hgrow12 (by decide); have HLE5 : Hid (B ≤ w12.heap.size) := Nat.le_trans HLE4.out hgrow12.size; clear hown12 hgrow12 hf0))
   have hgG := CL.out.get 2 rfl
   have HLS6 := OwnLists.but HLS5.out hB13 hgG (by decide) (by decide)
   have HU6 : OwnInts w.heap.size w13 (.slice ua s.things.length uc) (pickedV (l.getD k default).added x 0) := ownsRow.but HU5.out hB13 hgG (by decide)
   refine ⟨⟨i + 1, _, _, by push_cast; rfl, by omega, hC13, Nat.le_trans HLE5.out hB13.size, HLS6, HU6⟩, ?_⟩
   simp [intOf]; omega
  ·obtain rfl : i = s.lots.length := by omega
   have hc0 := CI.out.cell 0 rfl 0
   have HRN := Lib.hid (ranges_own s l (.slice ta s.things.length tc) (.slice la s.lots.length lc) (.slice (some ⟨b, o, none⟩) l.length c) wr ((HS.out.below CI.out.bel).mono CI.out.bel.size) ((HL.out.below CI.out.bel).mono CI.out.bel.size) HG.out)
   obtain ⟨va1, vc1, rfl⟩ := ownsRow_slice HLS.out.row
   go_wp2_with fail
   refine HRN.out.mono ?_
   rintro e W3 ⟨tv, us3, rfl, hT, hb⟩
   have CJ := Lib.hid (CI.out.call hb)
   have HLS3 := Lib.hid (OwnLists.call HLS.out hb)
   have HU3 : Hid (OwnInts w.heap.size W3 (.slice ua s.things.length uc) (pickedV (l.getD k default).added x 0)) := ownsRow.below HU.out hb
   have HT3 := Lib.hid hT
   clear hb hT HRN CI HLS HU HLE hc0 hcb1
   obtain ⟨xa, xc, rfl⟩ := ownsRow_slice HT3.out.row
   have HG44 := Lib.hid (CJ.out.get 2 rfl)
   obtain ⟨B2, hB2⟩ : ∃ B2, W3.heap.size = B2 := ⟨_, rfl⟩
   have HBW2 : Hid (W3.heap.size = B2) := hB2
   have HBG2 : Hid (w.heap.size ≤ B2) := by rw [← hB2]; exact CJ.out.bel.size
   clear hB2
   have HL0 : Hid (OwnLists B2 W3 (.slice none 0 0) 0 [] (fun i => pickedV (backV s l i) x (5 * i + 2))) := ⟨rfl, World.ownsRow_nil _ _ 54 1, fun i hi => by omega⟩
   have hnbk : nb ≤ k := by rw [← HNB.out]; exact HBO.out.blen
   go_wp2_with fail
   go_loopw [13] (fun iv wr => ∃ (i : Nat) (v2 : Value) (us : List Value), iv = .int .i64 i ∧ i ≤ nb ∧ Bs w [(w.heap.size, .cells #[.slice ta s.things.length tc, .slice la s.lots.length lc] 25), (w.heap.size + 1, .cells #[.slice none 0 0, .slice none 0 0, .slice none 0 0] 60), (G, .cells #[.slice va1 s.lots.length vc1, v2, .slice ua s.things.length uc] 60)] wr ∧ But G W3 wr ∧ OwnLists B2 wr v2 i us (fun i => pickedV (backV s l i) x (5 * i + 2))) (fun iv _ => nb - (intOf iv).toNat)
   case atStart => exact ⟨0, _, [], rfl, by omega, CJ.out, But.refl _ _, HL0.out⟩
   case round =>
    clear CJ HL0
    obtain ⟨i, v2, us2, rfl, hi, hbs, hbut, hls⟩ := hrel
    have CI := Lib.hid hbs
    have HBT := Lib.hid hbut
    have HLS := Lib.hid hls
    have HLE : Hid (B2 ≤ wr.heap.size) := by rw [← HBW2.out]; exact hbut.size
    clear hbs hbut hls
    have h2 := (CI.out.bel.cell (p := ⟨b, o + k * 3 + 1, none⟩) HBB.out).trans HD2.out
    obtain ⟨va2, vc2, rfl⟩ := ownsRow_slice HLS.out.row
    by_cases hib : i < nb
    ·have hii : (i : Int) < (nb : Int) := by omega
     have HTT : Hid (TableIn wr.heap.size wr (.slice xa l.length xc) (rangesV s l)) := OwnTable.table (OwnTable.but HT3.out HBT.out HG44.out (by decide) (by decide)) (by omega) (fun i hi => by rw [row_eq s l hi]; simp; omega) (rangesV s l) (rangesV_length s l) (fun i _ => rfl)
     have HBK := Lib.hid (back82 s l i HG.out (by omega) (.slice (some ⟨b, o, none⟩) l.length c) (.slice xa l.length xc) wr ((HL.out.below CI.out.bel).mono CI.out.bel.size) HTT.out)
     have hbl : (backV s l i).length = s.things.length := by simp [backV]
     have HBLN := Lib.hid hbl
     clear hbl
     go_wp2_with fail
     refine HBK.out.mono ?_
     rintro e w3 ⟨t, rfl, ht, hb⟩
     have HE := Lib.hid (picked81_own (backV s l i) x (5 * i + 2) (by rw [HBLN.out]; omega) (spOk_back HG.out (show i < k by omega) hk) HX.out (by omega) t (.slice ax x.length cx) w3 ht ((HVX.out.below (CI.out.bel.trans (hb.mono CI.out.bel.size))).mono (CI.out.call hb).bel.size))
     obtain ⟨pa, pc, rfl, -⟩ := sl_shape ht
     rw [HBLN.out] at HE ⊢
     have CI := Lib.hid (CI.out.call hb)
     have HBT := Lib.hid (HBT.out.trans (But.of hb))
     have HLS := Lib.hid (OwnLists.call HLS.out hb)
     have HLE := Lib.hid (Nat.le_trans HLE.out hb.size)
     clear hb ht h2 HBK HTT
     have HN5 : Hid ((5 : Int) * (i : Int) + 2 = ((5 * i + 2 : Nat) : Int)) := by unfold Hid; push_cast; rfl
     have hi6 : i ≤ 6 := by omega
     go_wp2_with fail
     rw [HN5.out]
     refine HE.out.mono ?_
     rintro e w4 ⟨y, rfl, hy, hb⟩
     have CJ := Lib.hid (CI.out.call hb)
     have HBT4 := Lib.hid (HBT.out.trans (But.of hb))
     have HLS4 := Lib.hid (OwnLists.call HLS.out hb)
     have HLE4 := Lib.hid (Nat.le_trans HLE.out hb.size)
     have HY : Hid (OwnInts B2 w4 y (pickedV (backV s l i) x (5 * i + 2))) := ownsRow.le hy HLE.out
     clear hb hy HE CI HBT HLS HLE
     obtain ⟨ya, yc, rfl⟩ : ∃ a c, y = .slice a s.things.length c := by
      obtain ⟨a, c, e⟩ := ownsRow_slice HY.out
      rw [pickedV_len, HBLN.out] at e
      exact ⟨a, c, e⟩
     have CK := Lib.hid (CJ.out.alloc (.cells #[.slice ya s.things.length yc] 54))
     have HBT5 := Lib.hid (HBT4.out.alloc (.cells #[.slice ya s.things.length yc] 54))
     have HLS5 := Lib.hid (OwnLists.call HLS4.out (ba_allocB w4 (.cells #[.slice ya s.things.length yc] 54)))
     have HY5 : Hid (OwnInts B2 (w4.alloc (.cells #[.slice ya s.things.length yc] 54)) (.slice ya s.things.length yc) (pickedV (backV s l i) x (5 * i + 2))) := ownsRow.below HY.out (ba_allocB w4 _)
     have HLE5 : Hid (B2 ≤ (w4.alloc (.cells #[.slice ya s.things.length yc] 54)).heap.size) := Nat.le_trans HLE4.out (ba_allocB w4 _).size
     have HNW := Lib.hid (heap_alloc_new w4 (.cells #[.slice ya s.things.length yc] 54))
     have hf0 := CJ.out.cell 2 rfl 1
     go_wp2_with (first | (refine wpList_cell_bb rfl 58 _ _ rfl CL.out 2 G 1 _ 60 rfl rfl _ rfl (by simp) rfl info42 ?_; intro w13 hC13 hB13) | (at_builtin; refine wpList_append_own _ rfl _ _ 58 rfl B2 54 i0 (.slice none 0 0) 1 24 Tryz.underlying58 HI0.out HZ0.out HZ1.out HZ2.out rfl (by decide) _ _ _ rfl HLS5.out.row ⟨w4.heap.size, 0, none⟩ 1 1 [.slice ya s.things.length yc] rfl rfl (cell_news _ _ _ _ HNW.out) (one_of _ rfl) (by unfold maxLen; omega) (by omega) HLE5.out ?_; intro v' w12 hown12 hgrow12 _; obtain ⟨xa1, xc1, rfl⟩ := ownsRow_slice hown12; have CL := Lib.hid (Bs.grown CK.out HLS5.out.row hgrow12 HBG2.out (by intro p hp; simp only [List.mem_cons, List.not_mem_nil, or_false] at hp; rcases hp with rfl | rfl | rfl <;> exact ⟨_, _, rfl, by decide⟩)); have HLS6 := Lib.hid (OwnLists.more HLS5.out HY5.out hown12 hgrow12); have HBT6 := Lib.hid (HBT5.out.grow (by rw [HBW2.out]; exact grown_below HLS5.out.row hgrow12 (Nat.le_refl _) HLE5.out)); clear hown12 hgrow12 hf0))
     have hgG := CL.out.get 2 rfl
     have HLS7 := OwnLists.but HLS6.out hB13 hgG (by decide) (by decide)
     refine ⟨⟨i + 1, _, _, by push_cast; rfl, by omega, hC13, HBT6.out.trans hB13, HLS7⟩, ?_⟩
     simp [intOf]; omega
    ·obtain rfl : i = nb := by omega
     have HLA := Lib.hid (OwnLists.but HLS3.out HBT.out HG44.out (by decide) (by decide))
     have HUA : Hid (OwnInts w.heap.size wr (.slice ua s.things.length uc) (pickedV (l.getD k default).added x 0)) := ownsRow.but HU3.out HBT.out HG44.out (by decide)
     have hf0 := CI.out.cell 2 rfl 0
     have hf1 := CI.out.cell 2 rfl 1
     have hf2 := CI.out.cell 2 rfl 2
     go_wp2_with (refine wpList_store_bb rfl 60 _ _ rfl CI.out 1 (w.heap.size + 1) _ _ 60 rfl rfl rfl info44 rfl (by simp [Value.oneCell']) ?_; intro w5 hC5 hB5)
     have hgZ := CI.out.get 1 rfl
     have hA := OwnLists.but HLA.out hB5 hgZ (by decide) (by decide)
     have hBk := OwnLists.but HLS.out hB5 hgZ (by decide) (by decide)
     have hU : OwnInts w.heap.size w5 (.slice ua s.things.length uc) (pickedV (l.getD k default).added x 0) := ownsRow.but HUA.out hB5 hgZ (by decide)
     refine bodyPost_ret (v := .agg #[_, _, _]) (results_cell_row (fn := Tryz.f11) rfl _ _ _ _ _ _ _ rfl (hC5.get 1 rfl) Tryz.underlying60 rfl info44) rfl ⟨_, rfl, ⟨_, _, _, rfl, ⟨?_, ?_, ?_⟩⟩, hC5.bel⟩
     ·exact hA.lists (by omega) (fun i hi => by rw [pickedV_len, HG.out.sh.plen i hi]; omega) _ (by simp [turnT]) (fun i hi => by unfold turnT; simp only; rw [mapr_get _ _ _ hi])
     ·exact hBk.lists (by omega) (fun i hi => by rw [pickedV_len]; simp [backV]; omega) _ (by unfold turnT; simp only; rw [List.length_map, List.length_range]; exact HNB.out) (fun i hi => by unfold turnT; simp only; rw [mapr_get _ _ _ (by rw [HNB.out]; exact hi)])
     ·exact hU.ints (by rw [pickedV_len, HAL.out]; omega)
end Go.Proofs.YteebihcdgpfldaaGreat
namespace Go.Proofs.YteebihcdgpfldaaGreat
open Go.RowKit
theorem IntsIn.at' {q : IntKind} {B : Nat} {w : World} {a : Option Addr} {n c : Nat} {l : List Int} (h : IntsIn q B w (.slice a n c) l) {i : Nat} (hi : i < l.length) : ∃ b o, a = some ⟨b, o, none⟩ ∧ b < B ∧ w.cell? ⟨b, o + i, none⟩ = some (.int q (l.getD i 0)) := by
 obtain ⟨a', c', e, -, h⟩ := h
 cases e
 rcases h with rfl | ⟨b, o, rfl, hb, h⟩
 ·simp at hi
 ·exact ⟨b, o, rfl, hb, h i hi⟩
theorem IntsIn.shape {q : IntKind} {B n : Nat} {w : World} {v : Value} {l : List Int} (h : IntsIn q B w v l) (hl : l.length = n) : ∃ a c, v = .slice a n c := by
 obtain ⟨a, c, rfl, -⟩ := h
 rw [hl]
 exact ⟨a, c, rfl⟩
end Go.Proofs.YteebihcdgpfldaaGreat
namespace Go.Proofs.YteebihcdgpfldaaGreat
open Go.RowKit
/-- The call of a truth gives X. -/
def GivesT (f : Nat) (args : Array Value) (X : Tru) (w0 : World) : Prop := ∀ w, Below w0.heap.size w0 w → Calls Tryz.prog f args w fun e w' => ∃ t, e = .returned t ∧ IsTru X w' t ∧ Below w.heap.size w w'
/-- The call of Made with X gives M. -/
def GivesM (args : Value → Array Value) (X : Tru) (M : List Int) (w0 : World) : Prop := ∀ w t, Below w0.heap.size w0 w → IsTru X w t → Calls Tryz.prog 10 (args t) w fun e w' => ∃ tv, e = .returned (.tuple #[tv, .int .i64 0]) ∧ IsInts M w' tv ∧ Below w.heap.size w w'
theorem made_gives {s : Shop} {l : List Bat} {k : Nat} (hz : batchesE s l = 0) (hk : k < l.length) (x : Tru) (hx : truthE s l k x = 0) (vt vl v : Value) (w : World) (hs : ShopAt w.heap.size w vt vl s) (hl : BatsIn w.heap.size w v l) :
 GivesM (fun t => #[.agg #[vt, vl], v, .int .i64 k, t]) x ((List.range s.things.length).map (madeT s (l.getD k default) x)) w := by
 rintro wz t hb ⟨tl, tb, ta, rfl, ht⟩
 have h := made_any s l (k : Int) x vt vl v tl tb ta wz ((hs.below hb).mono hb.size) ((hl.below hb).mono hb.size) ht
 unfold RetInts at h
 rw [madeE_ok hz hk hx, madeV_ok hz hk hx] at h
 exact h
theorem truth_pair {s : Shop} {l : List Bat} {k : Nat} (hz : batchesE s l = 0) (hk : k < l.length) {x : List Int} (hx : Turns x) {vt vl v vx : Value} {w : World} (hs : ShopAt w.heap.size w vt vl s) (hl : BatsIn w.heap.size w v l) (hvx : IntsIn .u32 w.heap.size w vx x) :
 ∃ X M, GivesT 11 #[.agg #[vt, vl], v, .int .i64 k, vx] X w ∧ GivesM (fun t => #[.agg #[vt, vl], v, .int .i64 k, t]) X M w ∧ M.length = s.things.length ∧
  ∀ t, t < s.things.length → (micV s l k t).1 ≤ M.getD t 0 ∧ M.getD t 0 ≤ (micV s l k t).2 := by
 have hg := all_good hz
 refine ⟨turnT s l k x, _, fun wz hb => truth41 s l k x hx hg hk vt vl v vx wz ((hs.below hb).mono hb.size) ((hl.below hb).mono hb.size) ((hvx.below hb).mono hb.size), made_gives hz hk _ (turnT_ok hg hk x) vt vl v w hs hl, by simp, fun t ht => ?_⟩
 rw [mapr_get _ _ _ ht]
 exact made_between hg hk (turnT_ok hg hk x) ht
theorem turns_of {x : List Int} (h : ∀ y ∈ x, 0 ≤ y ∧ y ≤ 4294967295) : Turns x := ⟨fun i => by
 by_cases hi : i < x.length
 ·rw [List.getD_eq_getElem?_getD, List.getElem?_eq_getElem hi]
  exact h _ (List.getElem_mem hi)
 ·rw [List.getD_eq_getElem?_getD, List.getElem?_eq_none (by omega)]
  exact ⟨Int.le_refl _, by decide⟩⟩
end Go.Proofs.YteebihcdgpfldaaGreat
namespace Go.Proofs.YteebihcdgpfldaaGreat
theorem weakS_le {s : Shop} (hs : ShopOk s) {f g : Nat → Int} {n : Nat} (hn : n ≤ s.things.length) (h : ∀ t, t < n → f t ≤ g t) : weakS s f n ≤ weakS s g n :=
 dot_le fun i hi => Int.mul_le_mul_of_nonneg_left (h i hi) (hs.weak i (by omega)).1
/-- What the law says of what a wick has left. -/
theorem left_wick {w lo m hi : Int} (hw : 0 < w) (h0 : 0 ≤ lo) (h1 : lo ≤ m) (h2 : m ≤ hi) :
 0 ≤ max 0 (1000 * (1000 * w) - hi) / (1000 * w) ∧ (max 0 (1000 * (1000 * w) - lo) + 1000 * w - 1) / (1000 * w) ≤ 1000 ∧
 1000 * w * (max 0 (1000 * (1000 * w) - hi) / (1000 * w)) ≤ max 0 (1000000 * w - m) ∧
 max 0 (1000000 * w - m) ≤ 1000 * w * ((max 0 (1000 * (1000 * w) - lo) + 1000 * w - 1) / (1000 * w)) := by
 have hq : 0 < 1000 * w := by omega
 refine ⟨Int.ediv_nonneg (by omega) (by omega), ?_, ?_, ?_⟩
 ·have : (max 0 (1000 * (1000 * w) - lo) + 1000 * w - 1) / (1000 * w) < 1001 := Int.ediv_lt_of_lt_mul hq (by omega)
  omega
 ·have := Int.mul_ediv_self_le (x := max 0 (1000 * (1000 * w) - hi)) (k := 1000 * w) (by omega)
  omega
 ·have := Int.lt_mul_ediv_self_add (x := max 0 (1000 * (1000 * w) - lo) + 1000 * w - 1) (k := 1000 * w) hq
  omega
theorem pull_get {s : Shop} {l : List Bat} (hz : batchesE s l = 0) {k : Nat} (hk : k < l.length) : (pullV s l).getD k (0, 0) = pullOf s (l.getD k default) ((rangesV s l).getD k []) := by
 unfold pullV
 rw [if_neg (by simp [hz]), mapr_get _ _ _ hk]
/-- What the law on light needs of what is left. -/
theorem light_left {s : Shop} {l : List Bat} (hz : batchesE s l = 0) {k : Nat} (hk : k < l.length) {M : List Int} (hl : M.length = s.things.length) (hM : ∀ t, t < s.things.length → (micV s l k t).1 ≤ M.getD t 0 ∧ M.getD t 0 ≤ (micV s l k t).2) :
 (∀ t, t < M.length → 0 ≤ M.getD t 0 ∧ M.getD t 0 ≤ 2000000000000) ∧ (0 < weightV (l.getD k default) ∧ weightV (l.getD k default) ≤ 1200000) ∧
 (0 ≤ weakS s (fun t => M.getD t 0) M.length ∧ weakS s (fun t => M.getD t 0) M.length ≤ 1000000000000000) ∧
 0 ≤ ((pullV s l).getD k (0, 0)).1 ∧ ((pullV s l).getD k (0, 0)).2 ≤ 1000 ∧
 1000 * weightV (l.getD k default) * ((pullV s l).getD k (0, 0)).1 ≤ max 0 (1000000 * weightV (l.getD k default) - weakS s (fun t => M.getD t 0) M.length) ∧
 max 0 (1000000 * weightV (l.getD k default) - weakS s (fun t => M.getD t 0) M.length) ≤ 1000 * weightV (l.getD k default) * ((pullV s l).getD k (0, 0)).2 := by
 have hg := all_good hz
 have hw := hg.pre.pos hg.sh hg.n6 (Nat.le_refl _) hk
 have hmb : ∀ t, t < M.length → 0 ≤ M.getD t 0 ∧ M.getD t 0 ≤ 2000000000000 := fun t ht => by
  have h1 := hM t (by omega)
  have h2 := mic_ok hg.sh hg.n6 (k := k) (fun j hj => hg.pre j (by omega)) hk t
  omega
 refine ⟨hmb, hw, weakS_bound hg.sh _ (by omega) hmb, ?_⟩
 rw [pull_get hz hk]
 unfold pullOf
 rw [hl]
 refine left_wick hw.1 (weakS_bound hg.sh _ (Nat.le_refl _) fun t ht => ?_).1 (weakS_le hg.sh (Nat.le_refl _) fun t ht => (hM t ht).1) (weakS_le hg.sh (Nat.le_refl _) fun t ht => (hM t ht).2)
 have h2 := mic_ok hg.sh hg.n6 (k := k) (fun j hj => hg.pre j (by omega)) hk t
 unfold micV at h2
 omega
end Go.Proofs.YteebihcdgpfldaaGreat
