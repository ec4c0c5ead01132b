/- slices.ContainsFunc with the test of Hollow. -/
import Derived.Test.YtafdagjdpnaddaaW18
namespace Go.Proofs.Ytafdagjdpnaddaa
open Go.RowKit
/-- The skin is too thick for a topping. -/
def thick (m : Mou) (l : List Int) (x : Int) : Bool := decide (m.skin < (skinP l x : Int))
/-- The blocks of the times stand before B. -/
structure TimesAt (m : Mou) (l : List Int) (a1 a2 : Option Addr) (n bt B : Nat) (w : World) : Prop where
  lt : bt < B
  get : w.heap[bt]? = some (.cells #[.int .i64 m.rings, .int .i64 m.give, .int .i64 m.pl, .int .i64 m.ph, .int .i64 m.wl, .int .i64 m.wh, .int .i64 m.set, .int .i64 m.shrink, .int .i64 m.skin, .int .i64 m.fill, .int .i64 m.gap, .int .i64 m.deep, .slice a1 n n, .slice a2 n n] 102)
  len : l.length = n
  n8 : n ≤ 8
  ints : IntsIn .i64 B w (.slice a1 n n) l
theorem TimesAt.next {m : Mou} {l : List Int} {a1 a2 : Option Addr} {n bt : Nat} {w w' : World} (h : TimesAt m l a1 a2 n bt w.heap.size w) (hb : Below w.heap.size w w') : TimesAt m l a1 a2 n bt w'.heap.size w' :=
  ⟨Nat.lt_of_lt_of_le h.lt hb.size, block_keep h.get hb, h.len, h.n8, h.ints.next hb⟩
set_option maxRecDepth 100000 in
set_option maxHeartbeats 4000000 in
theorem hol1_any (m : Mou) (l : List Int) (a1 a2 : Option Addr) (n bt : Nat) (x : Int) (w : World) (h : TimesAt m l a1 a2 n bt w.heap.size w) :
    Calls Try.prog 65 #[.int .i64 x, .pointer (some ⟨bt, 0, none⟩)] w fun e w' => e = .returned (.bool (thick m l x)) ∧ Below w.heap.size w w' := by
  have HT := Lib.hid h
  have HS : Hid ((skinP l x : Int) ≤ 8) := by unfold Hid; have h1 := leTo_le l x l.length; have := h.len; have := h.n8; unfold skinP; omega
  clear h
  unfold thick
  go_enter Try.func65, Try.ntmps65
  go_wp2
  refine wp_region_inv0 (by kernel_rfl) (by kernel_rfl) (fun _ w' => Below w.heap.size w w') (Below.refl _ _).drew ?_
  iterate 3
    (apply obl_det
     case hrun =>
       intro D y wz hW hD R hR
       have HRR := Lib.hid hR
       clear hR
       have HW := Lib.hid hW
       have c2 := fun j => cell_of_row wz bt j _ _ _ (HT.out.next hW).get
       clear hW hD
       go_wp2
       exact HRR.out _ HW.out
     case hnp => rfl
     case hv => first | exact ⟨_, fun _ => rfl⟩ | exact ⟨undef, fun _ => rfl⟩)
  apply obl_det
  case hrun =>
    intro D y wz hW hD R hR
    have HRR := Lib.hid hR
    clear hR
    have HW := Lib.hid hW
    have hb := hW
    have HB := Lib.hid hb
    clear hW hD
    clear hb
    go_wp2_with fail
    refine (skin_any l x (by have := HT.out.len; have := HT.out.n8; omega) _ _ (HT.out.next HB.out).ints).mono ?_
    rintro e w' ⟨rfl, rfl⟩
    go_wp2_with fail
    exact HRR.out _ HW.out
  case hnp => rfl
  case hv => first | exact ⟨_, fun _ => rfl⟩ | exact ⟨undef, fun _ => rfl⟩
  iterate 6
    (apply obl_det
     case hrun =>
       intro D y wz hW hD R hR
       have HRR := Lib.hid hR
       clear hR
       have HW := Lib.hid hW
       have c2 := fun j => cell_of_row wz bt j _ _ _ (HT.out.next hW).get
       clear hW hD
       go_wp2
       exact HRR.out _ HW.out
     case hnp => rfl
     case hv => first | exact ⟨_, fun _ => rfl⟩ | exact ⟨undef, fun _ => rfl⟩)
  apply obl_nil
  intro D y w8 hall hW
  have HW := Lib.hid hW
  clear hW hall D y
  go_wp2_with fail
  go_ret
  exact ⟨rfl, HW.out⟩
set_option maxHeartbeats 4000000 in
theorem hIndex_any (m : Mou) (l : List Int) (a1 a2 : Option Addr) (n bt : Nat) (plan : List Int) (v : Value) (w : World) (h : TimesAt m l a1 a2 n bt w.heap.size w) (hv : IntsIn .i64 w.heap.size w v plan) :
    Calls Try.prog 71 #[v, .func (.func 65) #[] #[.pointer (some ⟨bt, 0, none⟩)]] w
      fun e w' => (∃ k : Int, e = .returned (.int .i64 k) ∧ decide (0 ≤ k) = plan.any (thick m l)) ∧ Below w.heap.size w w' := by
  obtain ⟨a, c, rfl, hl, hv⟩ := hv
  have HT := Lib.hid h
  clear h
  go_enter Try.func71, Try.ntmps71
  go_wp2
  go_loopw [8] (fun i wr => ∃ k : Nat, k ≤ plan.length ∧ i = .int .i64 k ∧ plan.any (thick m l) = (plan.drop k).any (thick m l) ∧ Below w.heap.size w wr) (fun i _ => plan.length - (intOf i).toNat)
  case atStart => exact ⟨0, by omega, rfl, by simp, Below.refl _ _⟩
  case round =>
    obtain ⟨k, hk, rfl, ho, hbw⟩ := hrel
    have HO := Lib.hid ho
    have HBW := Lib.hid hbw
    clear ho
    by_cases hlt : k < plan.length
    · obtain ⟨b, o, rfl, hbB, hc⟩ : ∃ b o, a = some ⟨b, o, none⟩ ∧ b < w.heap.size ∧ ∀ i, i < plan.length → w.cell? ⟨b, o + i, none⟩ = some (.int .i64 (plan.getD i 0)) := by
        rcases hv with rfl | h
        · simp at hlt
        · exact h
      have hc' := (hbw.cell (p := ⟨b, o + k, none⟩) hbB).trans (hc k hlt)
      have H3 : Hid ((plan.drop k).any (thick m l) = (thick m l (plan.getD k 0) || (plan.drop (k + 1)).any (thick m l))) := by
        unfold Hid
        rw [List.drop_eq_getElem_cons hlt, List.any_cons]
        simp [List.getD, hlt]
      generalize plan.getD k 0 = x at hc' H3
      obtain ⟨tx, htx⟩ : ∃ tx, thick m l x = tx := ⟨_, rfl⟩
      have HTX := Lib.hid htx
      clear hc hv hbw htx
      cases tx
      · go_wp2_with (go_at_call 65; refine (hol1_any m l a1 a2 n bt x _ (HT.out.next HBW.out)).mono ?_; rw [HTX.out]; rintro e w' ⟨rfl, hbb⟩; have HBB := Lib.hid hbb; clear hbb)
        go_roundw
        case rel => exact ⟨k + 1, by omega, by go_num, by rw [HO.out, H3.out, HTX.out]; simp, HBW.out.trans (HBB.out.mono HBW.out.size)⟩
        case measure => simp [intOf]; omega
      · go_wp2_with (go_at_call 65; refine (hol1_any m l a1 a2 n bt x _ (HT.out.next HBW.out)).mono ?_; rw [HTX.out]; rintro e w' ⟨rfl, hbb⟩; have HBB := Lib.hid hbb; clear hbb)
        go_ret
        exact ⟨⟨_, rfl, by rw [HO.out, H3.out, HTX.out]; simp⟩, HBW.out.trans (HBB.out.mono HBW.out.size)⟩
    · have : k = plan.length := by omega
      go_wp2
      go_ret
      exact ⟨⟨_, rfl, by rw [HO.out, this]; simp⟩, HBW.out⟩
theorem hContains_r (r : Bool) (m : Mou) (l : List Int) (a1 a2 : Option Addr) (n bt : Nat) (plan : List Int) (hr : plan.any (thick m l) = r) (v : Value) (w : World) (h : TimesAt m l a1 a2 n bt w.heap.size w) (hv : IntsIn .i64 w.heap.size w v plan) :
    Calls Try.prog 64 #[v, .func (.func 65) #[] #[.pointer (some ⟨bt, 0, none⟩)]] w fun e w' => e = .returned (.bool r) ∧ Below w.heap.size w w' := by
  have HR := Lib.hid hr
  clear hr
  go_enter Try.func64, Try.ntmps64
  go_wp2_with (go_at_call 71; refine (hIndex_any m l a1 a2 n bt plan v _ h hv).mono ?_; rintro e w' ⟨⟨k, rfl, hk⟩, hbw⟩; have HK := Lib.hid hk; have HBW := Lib.hid hbw; clear hk hbw)
  go_ret
  exact ⟨ret_bool (HK.out.trans HR.out), HBW.out⟩
end Go.Proofs.Ytafdagjdpnaddaa
