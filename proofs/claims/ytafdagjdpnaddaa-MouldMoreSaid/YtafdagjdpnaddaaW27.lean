/- The helpers of the laws: span, end, Mould. -/
import Derived.Test.YtafdagjdpnaddaaW17
import Derived.Test.YtafdagjdpnaddaaW20
import Derived.Test.YtafdagjdpnaddaaEX
namespace Go.Proofs.Ytafdagjdpnaddaa
open Go.RowKit
set_option maxRecDepth 100000
theorem span36 (lo hi : Int) (w : World) : Calls Try.prog 36 #[.int .i64 lo, .int .i64 hi] w
    fun e w' => e = .returned (.agg #[.int .i64 lo, .int .i64 hi]) ∧ Below w.heap.size w w' := by
  have HB := Lib.hid ((Below.refl w.heap.size w).alloc (Nat.le_refl _) (.cells #[.int .i64 lo, .int .i64 hi] 23))
  have HR := Lib.hid (heap_alloc_new w (.cells #[.int .i64 lo, .int .i64 hi] 23))
  go_enter Try.func36, Try.ntmps36
  go_wp2_with fail
  exact bodyPost_ret (v := .agg #[.int .i64 lo, .int .i64 hi]) (results_cell_row (fn := Try.f36) rfl _ _ _ _ _ _ _ rfl HR.out Try.underlying23 rfl info23) rfl ⟨rfl, HB.out⟩
theorem end37 (a b c d : Int) (w : World) : Calls Try.prog 37 #[.int .i64 a, .int .i64 b, .int .i64 c, .int .i64 d] w
    fun e w' => e = .returned (.agg #[.int .i64 a, .int .i64 b, .int .i64 c, .int .i64 d]) ∧ Below w.heap.size w w' := by
  have C0 := Lib.hid ((Bs.nil w).push _ rfl (.cells #[.int .i64 0, .int .i64 0, .int .i64 0, .int .i64 0] 45))
  go_enter Try.func37, Try.ntmps37
  go_wp2_with fail
  refine (span36 a b _).mono ?_
  rintro e w1 ⟨rfl, hb⟩
  have C1 := Lib.hid (C0.out.call hb)
  clear C0 hb
  go_wp2_with fail
  refine (span36 c d _).mono ?_
  rintro e w2 ⟨rfl, hb⟩
  have C2 := Lib.hid (C1.out.call hb)
  clear C1 hb
  go_wp2_with (refine wpList_store_bs rfl 45 _ _ rfl C2.out 0 _ _ _ _ rfl rfl rfl info45 rfl (by simp [Value.oneCell']) ?_; intro w4 hC4)
  exact bodyPost_ret (v := .agg #[.int .i64 a, .int .i64 b, .int .i64 c, .int .i64 d]) (results_cell_row (fn := Try.f37) rfl _ _ _ _ _ _ _ rfl (hC4.get 0 rfl) Try.underlying45 rfl info45) rfl ⟨rfl, hC4.bel⟩
theorem info25 : (Try.prog.info? 25).map (·.size) = some 12 := by kernel_rfl
def exA (deep : Int) : Array Value := #[.int .i64 2, .int .i64 500, .int .i64 800, .int .i64 800, .int .i64 200, .int .i64 300, .int .i64 540, .int .i64 100, .int .i64 1, .int .i64 250, .int .i64 1, .int .i64 deep]
theorem mould35 (d : Int) (w : World) : Calls Try.prog 35 #[.int .i64 d] w
    fun e w' => e = .returned (.agg (exA d)) ∧ Below w.heap.size w w' := by
  have C0 := Lib.hid ((Bs.nil w).push _ rfl (.cells #[.int .i64 0, .int .i64 0, .int .i64 0, .int .i64 0, .int .i64 0, .int .i64 0, .int .i64 0, .int .i64 0, .int .i64 0, .int .i64 0, .int .i64 0, .int .i64 0] 25))
  go_enter Try.func35, Try.ntmps35
  go_wp2_with fail
  refine (span36 800 800 _).mono ?_
  rintro e w1 ⟨rfl, hb⟩
  have C1 := Lib.hid (C0.out.call hb)
  clear C0 hb
  go_wp2_with fail
  refine (span36 200 300 _).mono ?_
  rintro e w2 ⟨rfl, hb⟩
  have C2 := Lib.hid (C1.out.call hb)
  clear C1 hb
  go_wp2_with (refine wpList_store_bs rfl 25 _ _ rfl C2.out 0 _ _ _ _ rfl rfl rfl info25 rfl (by simp [Value.oneCell']) ?_; intro w4 hC4)
  exact bodyPost_ret (v := .agg (exA d)) (results_cell_row (fn := Try.f35) rfl _ _ _ _ _ _ _ rfl (hC4.get 0 rfl) Try.underlying25 rfl info25) rfl ⟨rfl, hC4.bel⟩
end Go.Proofs.Ytafdagjdpnaddaa
