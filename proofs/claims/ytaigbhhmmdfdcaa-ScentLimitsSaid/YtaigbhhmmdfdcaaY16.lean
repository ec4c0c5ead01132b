/- stearinref07.lists; turn and among of the laws. -/
import Derived.Test.YtaigbhhmmdfdcaaY15
namespace Go.Proofs.Ytaigbhhmmdfdcaa
open Go.RowKit
def listsB (l : List (List Int)) (many long : Nat) : Bool := decide (l.length = many) && l.all (fun y => decide (y.length = long))
theorem any_drop (l : List (List Int)) (n : Nat) {k : Nat} (hk : k < l.length) : (l.drop k).all (fun y => decide (y.length = n)) = (decide ((l.getD k default).length = n) && (l.drop (k + 1)).all (fun y => decide (y.length = n))) := by
  rw [List.drop_eq_getElem_cons hk, List.all_cons]
  simp [List.getD, hk]
set_option maxHeartbeats 4000000 in
/-- lists -/
theorem lists_ref (r : Bool) (l : List (List Int)) (many long : Nat) (v : Value) (w : World) (hv : IntsLIn w.heap.size w v l) (hr : listsB l many long = r) :
    Calls Try.prog 100 #[v, .int .i64 many, .int .i64 long] w fun e w' => e = .returned (.bool r) ∧ w = w' := by
  have HV := Lib.hid hv
  obtain ⟨a, c, rfl, -, hl⟩ := sl_shape hv
  clear hv
  have HR := Lib.hid hr
  clear hr
  unfold listsB at HR
  by_cases hq : l.length = many
  case neg =>
    have hq1 : ((l.length : Int) != (many : Int)) = true := by simp; omega
    have e : r = false := by rw [← HR.out]; simp [hq]
    subst e
    clear hq HR
    go_enter Try.func100, Try.ntmps100
    go_wp2_with fail
    go_ret
    exact ⟨rfl, rfl⟩
  subst hq
  have HR2 : Hid (l.all (fun y => decide (y.length = long)) = r) := by have h := HR.out; unfold Hid; simpa using h
  have hq1 : ((l.length : Int) != (l.length : Int)) = false := by simp
  have HD := fun k hk => Lib.hid (any_drop l long (k := k) hk)
  clear HR
  go_enter Try.func100, Try.ntmps100
  go_wp2_with fail
  clear hq1
  go_loopw [7] (fun iv wr => ∃ k : Nat, iv = .int .i64 k ∧ k ≤ l.length ∧ (l.drop k).all (fun y => decide (y.length = long)) = r ∧ w = wr) (fun iv _ => l.length - (intOf iv).toNat)
  case atStart => exact ⟨0, rfl, by omega, HR2.out, rfl⟩
  case round =>
    obtain ⟨k, rfl, hk, hq, rfl⟩ := hrel
    have HQ := Lib.hid hq
    clear hq
    by_cases hlt : k < l.length
    · have hki : (k : Int) < (l.length : Int) := by omega
      obtain ⟨b, o, rfl, hbb, u, hc, hi⟩ := HV.out.at' hlt
      have hc : w.cell? ⟨b, o + k, none⟩ = some u := by have h := hc; simpa [rdInts] using h
      have HDK := Lib.hid (HD k hlt).out
      obtain ⟨a2, c2, rfl, -⟩ := hi
      generalize (l.getD k default).length = m at *
      by_cases hm : m = long
      · subst hm
        have hq2 : ((m : Int) != (m : Int)) = false := by simp
        have HQN : Hid ((l.drop (k + 1)).all (fun y => decide (y.length = m)) = r) := by have h := HQ.out; rw [HDK.out] at h; unfold Hid; simpa using h
        go_wp2_with fail
        refine ⟨⟨k + 1, by push_cast; rfl, by omega, HQN.out, trivial⟩, ?_⟩
        simp [intOf]; omega
      · have hq2 : ((m : Int) != (long : Int)) = true := by simp; omega
        have e : r = false := by rw [← HQ.out, HDK.out]; simp [hm]
        subst e
        clear hm
        go_wp2_with fail
        go_ret
        exact ⟨rfl, rfl⟩
    · obtain rfl : k = l.length := by omega
      have e : r = true := by rw [← HQ.out, List.drop_of_length_le (Nat.le_refl _)]; rfl
      subst e
      go_wp2_with fail
      go_ret
      exact ⟨rfl, rfl⟩
end Go.Proofs.Ytaigbhhmmdfdcaa
