/- ScentFirst: the walk. -/
import Derived.Test.YtaigbhhmmdfdcaaCw
import Derived.Test.YtaigbhhmmdfdcaaY5
import Derived.Test.YtaigbhhmmdfdcaaP6
namespace Go.Proofs.Ytaigbhhmmdfdcaa
open Go.RowKit
set_option maxRecDepth 100000 in
set_option maxHeartbeats 8000000 in
theorem first_law (s : Shop) (l : List Bat) (m : Int) (vt vl v : Value) (w : World) (hs : ShopAt w.heap.size w vt vl s) (hl : BatsIn w.heap.size w v l) (hm : 0 ≤ m ∧ m ≤ 255) :
    Calls Try.prog 15 #[.agg #[vt, vl], v, .int .u8 m] w (fun e w' => e = .returned (.bool true) ∧ Below w.heap.size w w') := by
  have HS := Lib.hid hs
  have HL := Lib.hid hl
  obtain ⟨ta, tc, rfl, -, -⟩ := sl_shape hs.1
  obtain ⟨la, lc, rfl, -, -⟩ := sl_shape hs.2
  obtain ⟨a, c, rfl, hlc, hlen⟩ := sl_shape hl
  clear hs hl
  have C0 : Hid (Bs w [(w.heap.size, .cells #[.slice ta s.things.length tc, .slice la s.lots.length lc] 25)] _) := (Bs.nil w).push _ rfl (.cells #[.slice ta s.things.length tc, .slice la s.lots.length lc] 25)
  have hc0 := C0.out.cell 0 rfl 0
  have hc1 := C0.out.cell 0 rfl 1
  have HG : Hid (batchesE s l = 0 → AllGood s l) := all_good
  have HFI : Hid (batchesE s l = 0 → ∀ n, 1 ≤ n → n ≤ l.length → contentV s (l.take n) = (contentV s l).take n ∧ batchesE s (l.take n) = 0) := fun h n h1 hn => ⟨first_content h h1 hn, first_ok h h1 hn⟩
  have HCB : Hid (batchesE s l ≠ 0 → (contentV s l).length = 0) := fun h => by rw [content_bad h]; rfl
  have HCL : Hid (batchesE s l = 0 → (contentV s l).length = l.length) := content_len
  have H1 := fun w h1 h2 => Lib.hid (content_any s l (.slice ta s.things.length tc) (.slice la s.lots.length lc) (.slice a l.length c) w h1 h2)
  have H2 := fun w h1 h2 => Lib.hid (batches_ref s l (.slice ta s.things.length tc) (.slice la s.lots.length lc) (.slice a l.length c) w h1 h2)
  unfold RetTable at H1
  generalize batchesE s l = E at *
  go_enter Try.func15, Try.ntmps15
  go_wp2_with fail
  refine (H1 _ ((HS.out.below C0.out.bel).mono C0.out.bel.size) ((HL.out.below C0.out.bel).mono C0.out.bel.size)).out.mono ?_
  rintro e w1 ⟨tv, rfl, hi, hb⟩
  have C1 := Lib.hid (C0.out.call hb)
  have HT := Lib.hid hi
  clear hb hi C0 hc0 hc1 H1
  obtain ⟨xa, xc, rfl, hxc, -⟩ := sl_shape HT.out
  have hc0 := C1.out.cell 0 rfl 0
  have hc1 := C1.out.cell 0 rfl 1
  go_wp2_with fail
  refine (H2 _ ((HS.out.below C1.out.bel).mono C1.out.bel.size) ((HL.out.below C1.out.bel).mono C1.out.bel.size)).out.mono ?_
  rintro e w2 ⟨rfl, hb⟩
  have C2 := Lib.hid (C1.out.call hb)
  have HT := Lib.hid (SlIn.next HT.out hb)
  clear hb C1 hc0 hc1 H2
  by_cases hE : E = 0
  case neg =>
    have hq : (E != 0) = true := by simpa using hE
    have hq2 : (E == E) = true := by simp
    have hz := HCB.out hE
    rw [hz]
    clear hE HG HFI HCB HCL hz hxc HT
    go_wp2_with fail
    refine (awake_any _).mono ?_
    rintro e w3 ⟨rfl, hb⟩
    have C3 := Lib.hid (C2.out.call hb)
    clear hb C2
    go_wp2_with fail
    go_ret
    exact ⟨rfl, C3.out.bel⟩
  subst hE
  have hlen2 := HCL.out rfl
  obtain ⟨-, hn1, hn6, -⟩ := HG.out rfl
  have HFK := Lib.hid (HFI.out rfl)
  clear HFI
  have HCL2 := Lib.hid hlen2
  rw [hlen2] at HT hxc ⊢
  clear HCB HCL HG hlen2
  have hr0 : 0 ≤ m % (l.length : Int) := Int.emod_nonneg _ (by omega)
  have hr1 : m % (l.length : Int) < l.length := Int.emod_lt_of_pos _ (by omega)
  obtain ⟨n, hmd⟩ : ∃ n : Nat, m % (l.length : Int) = (n : Int) := ⟨(m % (l.length : Int)).toNat, by omega⟩
  rw [hmd] at hr0 hr1
  have hnl : n < l.length := by omega
  clear hr0 hr1
  go_wp2_with fail
  have hc45 : (1 : Int) + (n : Int) = ((n + 1 : Nat) : Int) := by push_cast; omega
  rw [hc45]
  obtain ⟨HF1, HF2⟩ := HFK.out (n + 1) (by omega) (by omega)
  have HBT := fun w h1 => Lib.hid (content_any s (l.take (n + 1)) (.slice ta s.things.length tc) (.slice la s.lots.length lc) (.slice a (n + 1) c) w h1)
  unfold RetTable at HBT
  rw [HF1, HF2] at HBT
  have hkk : n + 1 ≤ l.length := by omega
  clear HF1 HF2 hmd
  refine wp_region_inv1 (by kernel_rfl) (by kernel_rfl) [46, 41, 47, 11] (fun D y w' => CalW w2 (IsAny) (IsTable ((contentV s l).take (n + 1))) (.int .i64 0) false (D 4) (D 5) (D 6) (D 8) undef (y 46) (y 41) (y 47) (y 11) w') (CalW.start _) ?L1 ?hL1 ?_
  case hL1 =>
    intro y
    simp only [fill, List.foldl, Act.put, List.setIfInBounds_toArray, List.set]
    exact rfl
  apply obl_det
  case hrun =>
    intro D y wz hW hD R hR
    have HRR := Lib.hid hR
    clear hR
    have HW := Lib.hid hW
    clear hW hD
    refine wpList_load_want rfl 25 _ rfl _ rfl _ _ _ _ ((C2.out.call HW.out.bel).get 0 rfl) Try.underlying25 rfl info25 ?_
    go_simp
    exact HRR.out _ HW.out
  case hnp => rfl
  case hv => first | exact ⟨_, fun _ => rfl⟩ | exact ⟨undef, fun _ => rfl⟩
  apply obl_det
  case hrun =>
    intro D y wz hW hD R hR
    have HRR := Lib.hid hR
    clear hR
    have HW := Lib.hid hW
    clear hW hD
    go_wp2_with fail
    exact HRR.out _ HW.out
  case hnp => rfl
  case hv => first | exact ⟨_, fun _ => rfl⟩ | exact ⟨undef, fun _ => rfl⟩
  apply obl_det
  case hrun =>
    intro D y wz hW hD R hR
    have HRR := Lib.hid hR
    clear hR
    have HW := Lib.hid hW
    clear hW hD
    go_wp2_with fail
    exact HRR.out _ HW.out
  case hnp => rfl
  case hv => first | exact ⟨_, fun _ => rfl⟩ | exact ⟨undef, fun _ => rfl⟩
  apply obl_det
  case hrun =>
    intro D y wz hW hD R hR
    have HRR := Lib.hid hR
    clear hR
    have HW := Lib.hid hW
    clear hW hD
    go_wp2_with fail
    exact HRR.out _ HW.out
  case hnp => rfl
  case hv => first | exact ⟨_, fun _ => rfl⟩ | exact ⟨undef, fun _ => rfl⟩
  apply obl_priv 46
  case hd => rfl
  case hp => rfl
  case hrun =>
    intro D y wz hW hD R hR
    have HRR := Lib.hid hR
    clear hR
    have HW := Lib.hid hW
    clear hW hD
    have HC := Lib.hid ((HBT wz ((HS.out.below (C2.out.bel.trans (HW.out.bel.mono C2.out.bel.size))).mono (Nat.le_trans C2.out.bel.size HW.out.bel.size))).out (((HL.out.below (C2.out.bel.trans (HW.out.bel.mono C2.out.bel.size))).mono (Nat.le_trans C2.out.bel.size HW.out.bel.size)).take (n + 1) hkk))
    go_wp2_with fail
    refine HC.out.mono ?_
    rintro e w' ⟨v, rfl, hi, hb⟩
    have HN := Lib.hid ((CalW.next (stab_any) (stab_table _) HW.out hb).putB hi)
    clear hb
    go_wp2_with fail
    refine HRR.out _ _ ?_
    show CalW w2 (IsAny) (IsTable ((contentV s l).take (n + 1))) (.int .i64 0) false true (D 5) (D 6) (D 8) undef _ (y 41) (y 47) (y 11) _
    exact HN.out
  apply obl_priv 41
  case hd => rfl
  case hp => rfl
  case hrun =>
    intro D y wz hW hD R hR
    have HRR := Lib.hid hR
    clear hR
    refine wpList_mv rfl _ rfl (y 46) rfl ?_
    refine HRR.out (y 46) _ ?_
    exact hW.putM (hD.pre _ 4 rfl (by kernel_rfl))
  apply obl_priv 47
  case hd => rfl
  case hp => rfl
  case hrun =>
    intro D y wz hW hD R hR
    have HRR := Lib.hid hR
    clear hR
    obtain ⟨v, e, hv⟩ := hW.m (hD.pre _ 5 rfl (by kernel_rfl))
    refine wpList_ex rfl _ 0 rfl _ e v rfl ?_
    refine HRR.out v _ ?_
    exact hW.putX hv
  apply obl_det
  case hrun =>
    intro D y wz hW hD R hR
    have HRR := Lib.hid hR
    clear hR
    have HW := Lib.hid hW
    obtain ⟨v, e, -⟩ := hW.m (hD.pre _ 5 rfl (by kernel_rfl))
    have HE := Lib.hid e
    clear e
    clear hW hD
    refine wpList_ex rfl _ 1 rfl _ HE.out (.int .i64 0) rfl ?_
    exact HRR.out _ HW.out
  case hnp => rfl
  case hv => first | exact ⟨_, fun _ => rfl⟩ | exact ⟨undef, fun _ => rfl⟩
  apply obl_priv 11
  case hd => rfl
  case hp => rfl
  case hrun =>
    intro D y wz hW hD R hR
    have HRR := Lib.hid hR
    clear hR
    refine wpList_as rfl _ rfl (y 47) rfl ?_
    refine HRR.out (y 47) _ ?_
    exact hW.putS (hD.pre _ 6 rfl (by kernel_rfl))
  apply obl_det
  case hrun =>
    intro D y wz hW hD R hR
    have HRR := Lib.hid hR
    clear hR
    have HW := Lib.hid hW
    clear hW hD
    go_wp2_with fail
    exact HRR.out _ HW.out
  case hnp => rfl
  case hv => first | exact ⟨_, fun _ => rfl⟩ | exact ⟨undef, fun _ => rfl⟩
  apply obl_nil
  intro D y w8 hall hW
  have HPB := Lib.hid (hW.s (hall 8 (by decide)))
  have HBW := Lib.hid hW.bel
  clear hW hall
  have HTB := Lib.hid (SlIn.next (HT.out) HBW.out)
  have C3 := Lib.hid (C2.out.call HBW.out)
  clear HBW C2 HT
  have HTT := Lib.hid (SlIn.take HTB.out (n + 1) (by rw [HCL2.out]; exact hkk))
  have hkx : n + 1 ≤ xc := by omega
  generalize y 46 = y46 at *
  generalize y 41 = y41 at *
  generalize y 47 = y47 at *
  generalize y 11 = y11 at *
  have hq : ((l.length : Int) == (l.length : Int)) = true := by simp
  go_wp2_with fail
  refine (tables_same _ _ _ _ HTT.out HPB.out).mono ?_
  rintro e w3 ⟨rfl, hb⟩
  have C4 := Lib.hid (C3.out.call hb)
  clear hb C3
  go_wp2_with fail
  refine (awake_any _).mono ?_
  rintro e w4 ⟨rfl, hb⟩
  have C5 := Lib.hid (C4.out.call hb)
  clear hb C4
  go_wp2_with fail
  go_ret
  exact ⟨rfl, C5.out.bel⟩
end Go.Proofs.Ytaigbhhmmdfdcaa
