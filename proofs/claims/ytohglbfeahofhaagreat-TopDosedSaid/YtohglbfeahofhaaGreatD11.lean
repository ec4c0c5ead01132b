/- The methods of blend.part. -/
import Derived.Test.YtohglbfeahofhaaGreatD10
namespace Go.Proofs.YtohglbfeahofhaaGreat
open Go.RowKit
theorem infoPart : (Tryz.prog.info? 119).map (·.size) = some 8 := by kernel_rfl
theorem price_ok (x : BWax) (u : Value) (n : Int) (hn : 0 ≤ n ∧ n ≤ 20) (hv : 0 ≤ x.price ∧ x.price ≤ 100000) (w : World) : Calls Tryz.prog 47 #[.agg #[.string x.name, .int .i64 x.price, .int .i64 x.melt.1, .int .i64 x.melt.2, .int .i64 x.shrink.1, .int .i64 x.shrink.2, u, .int .i64 n]] w
    fun e w' => e = .returned (.int .i64 (n * x.price)) ∧ Below w.heap.size w w' := by
  have C0 : Hid (Bs w [(w.heap.size, .cells #[.string x.name, .int .i64 x.price, .int .i64 x.melt.1, .int .i64 x.melt.2, .int .i64 x.shrink.1, .int .i64 x.shrink.2, u, .int .i64 n] 119)] _) := Lib.hid ((Bs.nil w).push _ rfl (.cells #[.string x.name, .int .i64 x.price, .int .i64 x.melt.1, .int .i64 x.melt.2, .int .i64 x.shrink.1, .int .i64 x.shrink.2, u, .int .i64 n] 119))
  have hb := mulb (a := n) (b := x.price) (A := 20) (B := 100000) (by omega) (by omega)
  have hm : wrap64 (n * x.price) = n * x.price := wrapU (by omega)
  clear hb
  go_enter Tryz.func47, Tryz.ntmps47
  go_wp2_with fail
  go_ret
  exact ⟨ret_int hm, C0.out.bel⟩
theorem softest_ok (x : BWax) (u : Value) (n : Int) (hn : 0 ≤ n ∧ n ≤ 20) (hv : 0 ≤ x.melt.1 ∧ x.melt.1 ≤ 100000) (w : World) : Calls Tryz.prog 82 #[.agg #[.string x.name, .int .i64 x.price, .int .i64 x.melt.1, .int .i64 x.melt.2, .int .i64 x.shrink.1, .int .i64 x.shrink.2, u, .int .i64 n]] w
    fun e w' => e = .returned (.int .i64 (n * x.melt.1)) ∧ Below w.heap.size w w' := by
  have C0 : Hid (Bs w [(w.heap.size, .cells #[.string x.name, .int .i64 x.price, .int .i64 x.melt.1, .int .i64 x.melt.2, .int .i64 x.shrink.1, .int .i64 x.shrink.2, u, .int .i64 n] 119)] _) := Lib.hid ((Bs.nil w).push _ rfl (.cells #[.string x.name, .int .i64 x.price, .int .i64 x.melt.1, .int .i64 x.melt.2, .int .i64 x.shrink.1, .int .i64 x.shrink.2, u, .int .i64 n] 119))
  have hb := mulb (a := n) (b := x.melt.1) (A := 20) (B := 100000) (by omega) (by omega)
  have hm : wrap64 (n * x.melt.1) = n * x.melt.1 := wrapU (by omega)
  clear hb
  go_enter Tryz.func82, Tryz.ntmps82
  go_wp2_with fail
  go_ret
  exact ⟨ret_int hm, C0.out.bel⟩
theorem hardest_ok (x : BWax) (u : Value) (n : Int) (hn : 0 ≤ n ∧ n ≤ 20) (hv : 0 ≤ x.melt.2 ∧ x.melt.2 ≤ 100000) (w : World) : Calls Tryz.prog 83 #[.agg #[.string x.name, .int .i64 x.price, .int .i64 x.melt.1, .int .i64 x.melt.2, .int .i64 x.shrink.1, .int .i64 x.shrink.2, u, .int .i64 n]] w
    fun e w' => e = .returned (.int .i64 (n * x.melt.2)) ∧ Below w.heap.size w w' := by
  have C0 : Hid (Bs w [(w.heap.size, .cells #[.string x.name, .int .i64 x.price, .int .i64 x.melt.1, .int .i64 x.melt.2, .int .i64 x.shrink.1, .int .i64 x.shrink.2, u, .int .i64 n] 119)] _) := Lib.hid ((Bs.nil w).push _ rfl (.cells #[.string x.name, .int .i64 x.price, .int .i64 x.melt.1, .int .i64 x.melt.2, .int .i64 x.shrink.1, .int .i64 x.shrink.2, u, .int .i64 n] 119))
  have hb := mulb (a := n) (b := x.melt.2) (A := 20) (B := 100000) (by omega) (by omega)
  have hm : wrap64 (n * x.melt.2) = n * x.melt.2 := wrapU (by omega)
  clear hb
  go_enter Tryz.func83, Tryz.ntmps83
  go_wp2_with fail
  go_ret
  exact ⟨ret_int hm, C0.out.bel⟩
theorem least_ok (x : BWax) (u : Value) (n : Int) (hn : 0 ≤ n ∧ n ≤ 20) (hv : 0 ≤ x.shrink.1 ∧ x.shrink.1 ≤ 100000) (w : World) : Calls Tryz.prog 84 #[.agg #[.string x.name, .int .i64 x.price, .int .i64 x.melt.1, .int .i64 x.melt.2, .int .i64 x.shrink.1, .int .i64 x.shrink.2, u, .int .i64 n]] w
    fun e w' => e = .returned (.int .i64 (n * x.shrink.1)) ∧ Below w.heap.size w w' := by
  have C0 : Hid (Bs w [(w.heap.size, .cells #[.string x.name, .int .i64 x.price, .int .i64 x.melt.1, .int .i64 x.melt.2, .int .i64 x.shrink.1, .int .i64 x.shrink.2, u, .int .i64 n] 119)] _) := Lib.hid ((Bs.nil w).push _ rfl (.cells #[.string x.name, .int .i64 x.price, .int .i64 x.melt.1, .int .i64 x.melt.2, .int .i64 x.shrink.1, .int .i64 x.shrink.2, u, .int .i64 n] 119))
  have hb := mulb (a := n) (b := x.shrink.1) (A := 20) (B := 100000) (by omega) (by omega)
  have hm : wrap64 (n * x.shrink.1) = n * x.shrink.1 := wrapU (by omega)
  clear hb
  go_enter Tryz.func84, Tryz.ntmps84
  go_wp2_with fail
  go_ret
  exact ⟨ret_int hm, C0.out.bel⟩
theorem most_ok (x : BWax) (u : Value) (n : Int) (hn : 0 ≤ n ∧ n ≤ 20) (hv : 0 ≤ x.shrink.2 ∧ x.shrink.2 ≤ 100000) (w : World) : Calls Tryz.prog 85 #[.agg #[.string x.name, .int .i64 x.price, .int .i64 x.melt.1, .int .i64 x.melt.2, .int .i64 x.shrink.1, .int .i64 x.shrink.2, u, .int .i64 n]] w
    fun e w' => e = .returned (.int .i64 (n * x.shrink.2)) ∧ Below w.heap.size w w' := by
  have C0 : Hid (Bs w [(w.heap.size, .cells #[.string x.name, .int .i64 x.price, .int .i64 x.melt.1, .int .i64 x.melt.2, .int .i64 x.shrink.1, .int .i64 x.shrink.2, u, .int .i64 n] 119)] _) := Lib.hid ((Bs.nil w).push _ rfl (.cells #[.string x.name, .int .i64 x.price, .int .i64 x.melt.1, .int .i64 x.melt.2, .int .i64 x.shrink.1, .int .i64 x.shrink.2, u, .int .i64 n] 119))
  have hb := mulb (a := n) (b := x.shrink.2) (A := 20) (B := 100000) (by omega) (by omega)
  have hm : wrap64 (n * x.shrink.2) = n * x.shrink.2 := wrapU (by omega)
  clear hb
  go_enter Tryz.func85, Tryz.ntmps85
  go_wp2_with fail
  go_ret
  exact ⟨ret_int hm, C0.out.bel⟩
theorem raiseP_ok (x : BWax) (hx : CurOk x.curve) (u : Value) (n : Int) (hn : 0 ≤ n ∧ n ≤ 20) (hR : -100000 ≤ addV x.curve n ∧ addV x.curve n ≤ 100000) (w : World) (hu : SpansIn w.heap.size w u x.curve) : Calls Tryz.prog 48 #[.agg #[.string x.name, .int .i64 x.price, .int .i64 x.melt.1, .int .i64 x.melt.2, .int .i64 x.shrink.1, .int .i64 x.shrink.2, u, .int .i64 n]] w
    fun e w' => e = .returned (.int .i64 (20 * addV x.curve n)) ∧ Below w.heap.size w w' := by
  have HAD := fun w h => Lib.hid (add_ok x.curve hx n hn u w h)
  have HU := Lib.hid hu
  obtain ⟨ca, cq, rfl, -, -⟩ := sl_shape hu
  generalize addV x.curve n = R at *
  have hm : wrap64 (20 * R) = 20 * R := wrapU (by omega)
  have C0 : Hid (Bs w [(w.heap.size, .cells #[.string x.name, .int .i64 x.price, .int .i64 x.melt.1, .int .i64 x.melt.2, .int .i64 x.shrink.1, .int .i64 x.shrink.2, .slice ca x.curve.length cq, .int .i64 n] 119)] _) := Lib.hid ((Bs.nil w).push _ rfl (.cells #[.string x.name, .int .i64 x.price, .int .i64 x.melt.1, .int .i64 x.melt.2, .int .i64 x.shrink.1, .int .i64 x.shrink.2, .slice ca x.curve.length cq, .int .i64 n] 119))
  have HM := Lib.hid hm
  clear hu hn hm hR
  go_enter Tryz.func48, Tryz.ntmps48
  go_wp2_with fail
  refine (HAD _ ((HU.out.below C0.out.bel).mono C0.out.bel.size)).out.mono ?_
  rintro e w1 ⟨rfl, hb⟩
  have C1 := Lib.hid (C0.out.call hb)
  clear hb
  go_wp2_with fail
  go_ret
  exact ⟨ret_int HM.out, C1.out.bel⟩
end Go.Proofs.YtohglbfeahofhaaGreat
