/- ScentKnown: the walk. -/
import Derived.Test.YtaigbhhmmdfdcaaK8
namespace Go.Proofs.Ytaigbhhmmdfdcaa
open Go.RowKit
set_option maxRecDepth 100000
theorem shop36s (w : World) : Calls Try.prog 36 #[] w (fun e w' => ∃ gt g2 g3 gl, e = .returned (.agg #[.slice (some ⟨gt, 0, none⟩) 3 3, .slice (some ⟨gl, 0, none⟩) 2 2]) ∧ Bs w [(gt, .cells #[.string ⟨#[114, 111, 115, 101]⟩, .int .i64 0, .int .i64 60000, .int .i64 5, .int .i64 0, .string ⟨#[114, 101, 100]⟩, .int .i64 1, .int .i64 2000, .int .i64 0, .int .i64 10, .string ⟨#[108, 101, 97, 100]⟩, .int .i64 2, .int .i64 100, .int .i64 0, .int .i64 0] 62), (g2, .cells #[.int .i64 0, .int .i64 0, .int .i64 0, .int .i64 0, .int .i64 0, .int .i64 2] 51), (g3, .cells #[.int .i64 10000, .int .i64 20000, .int .i64 500, .int .i64 1000, .int .i64 0, .int .i64 300] 51), (gl, .cells #[.string ⟨#[98, 101, 101, 115]⟩, .slice (some ⟨g2, 0, none⟩) 3 3, .string ⟨#[115, 116, 117, 98, 115]⟩, .slice (some ⟨g3, 0, none⟩) 3 3] 83)] w') := by
  have C0 := Lib.hid ((Bs.nil w).push _ rfl (.cells #[.slice none 0 0, .slice none 0 0] 25))
  have C1 := Lib.hid (C0.out.push _ rfl (.cells #[.string ⟨#[114, 111, 115, 101]⟩, .int .i64 0, .int .i64 60000, .int .i64 5, .int .i64 0, .string ⟨#[114, 101, 100]⟩, .int .i64 1, .int .i64 2000, .int .i64 0, .int .i64 10, .string ⟨#[108, 101, 97, 100]⟩, .int .i64 2, .int .i64 100, .int .i64 0, .int .i64 0] 62))
  rw [show (w.alloc (.cells #[.slice none 0 0, .slice none 0 0] 25)).heap.size = w.heap.size + 1 from by simp] at C1
  clear C0
  go_enter Try.func36, Try.ntmps36
  go_wp2_with fail
  refine (span38 0 0 _).mono ?_
  rintro e w1 ⟨rfl, hb⟩
  have C2 := Lib.hid (C1.out.call hb)
  clear C1 hb
  go_wp2_with fail
  refine (span38 0 0 _).mono ?_
  rintro e w2 ⟨rfl, hb⟩
  have C3 := Lib.hid (C2.out.call hb)
  clear C2 hb
  go_wp2_with fail
  refine (span38 0 2 _).mono ?_
  rintro e w3 ⟨rfl, hb⟩
  have C4 := Lib.hid (C3.out.call hb)
  clear C3 hb
  have C5 := Lib.hid (C4.out.push _ rfl (.cells #[.int .i64 0, .int .i64 0, .int .i64 0, .int .i64 0, .int .i64 0, .int .i64 2] 51))
  clear C4
  go_wp2_with fail
  refine (span38 10000 20000 _).mono ?_
  rintro e w5 ⟨rfl, hb⟩
  have C6 := Lib.hid (C5.out.call hb)
  clear C5 hb
  go_wp2_with fail
  refine (span38 500 1000 _).mono ?_
  rintro e w6 ⟨rfl, hb⟩
  have C7 := Lib.hid (C6.out.call hb)
  clear C6 hb
  go_wp2_with fail
  refine (span38 0 300 _).mono ?_
  rintro e w7 ⟨rfl, hb⟩
  have C8 := Lib.hid (C7.out.call hb)
  clear C7 hb
  have C9 := Lib.hid (C8.out.push _ rfl (.cells #[.int .i64 10000, .int .i64 20000, .int .i64 500, .int .i64 1000, .int .i64 0, .int .i64 300] 51))
  have C10 := Lib.hid (C9.out.push (w7.heap.size + 1) (by simp) (.cells #[.string ⟨#[98, 101, 101, 115]⟩, .slice (some ⟨w3.heap.size, 0, none⟩) 3 3, .string ⟨#[115, 116, 117, 98, 115]⟩, .slice (some ⟨w7.heap.size, 0, none⟩) 3 3] 83))
  clear C8 C9
  go_wp2_with (refine wpList_store_bs rfl 25 _ _ rfl C10.out 0 _ _ _ _ rfl rfl rfl info25 rfl (by simp [Value.oneCell']) ?_; intro w8 hC8)
  have H0 := hC8.get 0 rfl
  have HT := hC8.sub _ (List.sublist_cons_self _ _)
  exact bodyPost_ret (v := .agg #[_, _]) (results_cell_row (fn := Try.f36) rfl _ _ _ _ _ _ _ rfl H0 Try.underlying25 rfl info25) rfl ⟨_, _, _, _, rfl, HT⟩
theorem less_shop {w w' : World} {gt g2 g3 gl : Nat} {ex : List (Nat × Obj)} (h : Bs w ([(gt, .cells #[.string ⟨#[114, 111, 115, 101]⟩, .int .i64 0, .int .i64 60000, .int .i64 5, .int .i64 0, .string ⟨#[114, 101, 100]⟩, .int .i64 1, .int .i64 2000, .int .i64 0, .int .i64 10, .string ⟨#[108, 101, 97, 100]⟩, .int .i64 2, .int .i64 61, .int .i64 0, .int .i64 0] 62), (g2, .cells #[.int .i64 0, .int .i64 0, .int .i64 0, .int .i64 0, .int .i64 0, .int .i64 2] 51), (g3, .cells #[.int .i64 10000, .int .i64 20000, .int .i64 500, .int .i64 1000, .int .i64 0, .int .i64 300] 51), (gl, .cells #[.string ⟨#[98, 101, 101, 115]⟩, .slice (some ⟨g2, 0, none⟩) 3 3, .string ⟨#[115, 116, 117, 98, 115]⟩, .slice (some ⟨g3, 0, none⟩) 3 3] 83)] ++ ex) w') : ShopAt w'.heap.size w' (.slice (some ⟨gt, 0, none⟩) 3 3) (.slice (some ⟨gl, 0, none⟩) 2 2) exLess := by
  have H1 := h.get 0 rfl
  have H2 := h.get 1 rfl
  have H3 := h.get 2 rfl
  have H4 := h.get 3 rfl
  refine ⟨?_, ?_⟩
  · refine ⟨_, _, rfl, by simp [exLess], by simp [exLess], .inr ⟨_, 0, rfl, block_lt H1, fun i hi => ?_⟩⟩
    have hi3 : i = 0 ∨ i = 1 ∨ i = 2 := by simp [exLess] at hi; omega
    rcases hi3 with rfl | rfl | rfl <;> exact ⟨cell_of_row _ _ _ _ _ _ H1, cell_of_row _ _ _ _ _ _ H1, cell_of_row _ _ _ _ _ _ H1, cell_of_row _ _ _ _ _ _ H1, cell_of_row _ _ _ _ _ _ H1, by decide⟩
  · refine ⟨_, _, rfl, by simp [exLess], by simp [exLess], .inr ⟨_, 0, rfl, block_lt H4, fun i hi => ?_⟩⟩
    have hi3 : i = 0 ∨ i = 1 := by simp [exLess] at hi; omega
    rcases hi3 with rfl | rfl
    · exact ⟨cell_of_row _ _ _ _ _ _ H4, by decide, _, cell_of_row _ _ _ _ _ _ H4, SpansIn.three (p := (0, 0)) (q := (0, 0)) (r := (0, 2)) H2⟩
    · exact ⟨cell_of_row _ _ _ _ _ _ H4, by decide, _, cell_of_row _ _ _ _ _ _ H4, SpansIn.three (p := (10000, 20000)) (q := (500, 1000)) (r := (0, 300)) H3⟩
/-- What holds while the lesser shop is asked. -/
structure KnW (wb : World) (bs : List (Nat × Obj)) (d : Bool) (y : Value) (w : World) : Prop where
  bs : Bs wb bs w
  ba : d = true → BatsIn w.heap.size w y exBats
set_option maxHeartbeats 4000000 in
theorem known_law (w : World) : Calls Try.prog 7 #[] w (fun e w' => e = .returned (.bool true) ∧ Below w.heap.size w w') := by
  go_enter Try.func7, Try.ntmps7
  go_wp2_with fail
  refine (shop36s _).mono ?_
  rintro e w1 ⟨gt, g2, g3, gl, rfl, hb⟩
  have C1 := Lib.hid (hb.push _ rfl (.cells #[.slice (some ⟨gt, 0, none⟩) 3 3, .slice (some ⟨gl, 0, none⟩) 2 2] 25))
  clear hb
  obtain ⟨gb, hgb⟩ : ∃ gb, w1.heap.size = gb := ⟨_, rfl⟩
  rw [hgb] at C1
  have hcb := C1.out.cell 4 rfl 0
  go_wp2_with (refine wpList_cell_bs rfl 3 _ _ rfl C1.out 0 gt 12 _ _ rfl rfl (.int .i64 61) rfl (by decide) rfl info3 ?_; intro w2 hC2)
  have C2 : Hid (Bs w ([(gt, .cells #[.string ⟨#[114, 111, 115, 101]⟩, .int .i64 0, .int .i64 60000, .int .i64 5, .int .i64 0, .string ⟨#[114, 101, 100]⟩, .int .i64 1, .int .i64 2000, .int .i64 0, .int .i64 10, .string ⟨#[108, 101, 97, 100]⟩, .int .i64 2, .int .i64 61, .int .i64 0, .int .i64 0] 62), (g2, .cells #[.int .i64 0, .int .i64 0, .int .i64 0, .int .i64 0, .int .i64 0, .int .i64 2] 51), (g3, .cells #[.int .i64 10000, .int .i64 20000, .int .i64 500, .int .i64 1000, .int .i64 0, .int .i64 300] 51), (gl, .cells #[.string ⟨#[98, 101, 101, 115]⟩, .slice (some ⟨g2, 0, none⟩) 3 3, .string ⟨#[115, 116, 117, 98, 115]⟩, .slice (some ⟨g3, 0, none⟩) 3 3] 83)] ++ [(gb, .cells #[.slice (some ⟨gt, 0, none⟩) 3 3, .slice (some ⟨gl, 0, none⟩) 2 2] 25)]) w2) := hC2
  clear hC2 C1 hcb
  simp only [Act.put]
  go_wp2_with fail
  refine wp_region_inv1 (by kernel_rfl) (by kernel_rfl) [14] (fun D y w' => KnW w ([(gt, .cells #[.string ⟨#[114, 111, 115, 101]⟩, .int .i64 0, .int .i64 60000, .int .i64 5, .int .i64 0, .string ⟨#[114, 101, 100]⟩, .int .i64 1, .int .i64 2000, .int .i64 0, .int .i64 10, .string ⟨#[108, 101, 97, 100]⟩, .int .i64 2, .int .i64 61, .int .i64 0, .int .i64 0] 62), (g2, .cells #[.int .i64 0, .int .i64 0, .int .i64 0, .int .i64 0, .int .i64 0, .int .i64 2] 51), (g3, .cells #[.int .i64 10000, .int .i64 20000, .int .i64 500, .int .i64 1000, .int .i64 0, .int .i64 300] 51), (gl, .cells #[.string ⟨#[98, 101, 101, 115]⟩, .slice (some ⟨g2, 0, none⟩) 3 3, .string ⟨#[115, 116, 117, 98, 115]⟩, .slice (some ⟨g3, 0, none⟩) 3 3] 83)] ++ [(gb, .cells #[.slice (some ⟨gt, 0, none⟩) 3 3, .slice (some ⟨gl, 0, none⟩) 2 2] 25)]) (D 1) (y 14) w') ⟨C2.out.drew, fun h => (by cases h)⟩ ?FX ?hFX ?_
  case hFX =>
    intro y
    simp only [fill, List.foldl, Act.put, List.setIfInBounds_toArray, List.set]
    exact rfl
  clear C2
  apply obl_det
  case hrun =>
    intro D y wz hW hD R hR
    have HRR := Lib.hid hR
    clear hR
    have HW := Lib.hid hW
    clear hW hD
    refine wpList_load_want rfl 25 _ rfl _ rfl _ _ _ _ (HW.out.bs.get 4 rfl) Try.underlying25 rfl info25 ?_
    go_simp
    exact HRR.out _ ⟨HW.out.bs, HW.out.ba⟩
  case hnp => rfl
  case hv => first | exact ⟨_, fun _ => rfl⟩ | exact ⟨undef, fun _ => rfl⟩
  apply obl_priv 14
  case hd => rfl
  case hp => rfl
  case hrun =>
    intro D y wz hW hD R hR
    have HRR := Lib.hid hR
    clear hR
    have HW := Lib.hid hW
    clear hW hD
    go_wp2_with fail
    refine (batches37 _).mono ?_
    rintro e w' ⟨u, rfl, hs, hb⟩
    have HN := Lib.hid (HW.out.bs.call hb)
    have HS := Lib.hid hs
    clear hb hs
    go_wp2_with fail
    refine HRR.out _ _ ?_
    exact ⟨HN.out, fun _ => HS.out⟩
  apply obl_det
  case hrun =>
    intro D y wz hW hD R hR
    have HRR := Lib.hid hR
    clear hR
    have HW := Lib.hid hW
    have HB := Lib.hid (hW.ba (hD.pre _ 1 rfl (by kernel_rfl)))
    clear hW hD
    go_wp2_with fail
    have hc := keeps_any exLess exBats _ _ (y 14) wz (less_shop HW.out.bs) HB.out
    rw [ex_known] at hc
    refine hc.mono ?_
    rintro e w' ⟨rfl, hb⟩
    have HN := Lib.hid (HW.out.bs.call hb)
    have HB2 := Lib.hid (HB.out.next hb)
    clear hb hc
    go_wp2_with fail
    exact HRR.out _ ⟨HN.out, fun _ => HB2.out⟩
  case hnp => rfl
  case hv => first | exact ⟨_, fun _ => rfl⟩ | exact ⟨undef, fun _ => rfl⟩
  apply obl_det
  case hrun =>
    intro D y wz hW hD R hR
    have HRR := Lib.hid hR
    clear hR
    have HW := Lib.hid hW
    clear hW hD
    go_wp2
    exact HRR.out _ ⟨HW.out.bs, HW.out.ba⟩
  case hnp => rfl
  case hv => first | exact ⟨_, fun _ => rfl⟩ | exact ⟨undef, fun _ => rfl⟩
  apply obl_det
  case hrun =>
    intro D y wz hW hD R hR
    have HRR := Lib.hid hR
    clear hR
    have HW := Lib.hid hW
    clear hW hD
    go_wp2
    exact HRR.out _ ⟨HW.out.bs, HW.out.ba⟩
  case hnp => rfl
  case hv => first | exact ⟨_, fun _ => rfl⟩ | exact ⟨undef, fun _ => rfl⟩
  apply obl_det
  case hrun =>
    intro D y wz hW hD R hR
    have HRR := Lib.hid hR
    clear hR
    have HW := Lib.hid hW
    clear hW hD
    go_wp2
    exact HRR.out _ ⟨HW.out.bs, HW.out.ba⟩
  case hnp => rfl
  case hv => first | exact ⟨_, fun _ => rfl⟩ | exact ⟨undef, fun _ => rfl⟩
  apply obl_det
  case hrun =>
    intro D y wz hW hD R hR
    have HRR := Lib.hid hR
    clear hR
    have HW := Lib.hid hW
    clear hW hD
    go_wp2
    exact HRR.out _ ⟨HW.out.bs, HW.out.ba⟩
  case hnp => rfl
  case hv => first | exact ⟨_, fun _ => rfl⟩ | exact ⟨undef, fun _ => rfl⟩
  apply obl_det
  case hrun =>
    intro D y wz hW hD R hR
    have HRR := Lib.hid hR
    clear hR
    have HW := Lib.hid hW
    clear hW hD
    go_wp2
    exact HRR.out _ ⟨HW.out.bs, HW.out.ba⟩
  case hnp => rfl
  case hv => first | exact ⟨_, fun _ => rfl⟩ | exact ⟨undef, fun _ => rfl⟩
  apply obl_det
  case hrun =>
    intro D y wz hW hD R hR
    have HRR := Lib.hid hR
    clear hR
    have HW := Lib.hid hW
    clear hW hD
    go_wp2
    exact HRR.out _ ⟨HW.out.bs, HW.out.ba⟩
  case hnp => rfl
  case hv => first | exact ⟨_, fun _ => rfl⟩ | exact ⟨undef, fun _ => rfl⟩
  apply obl_det
  case hrun =>
    intro D y wz hW hD R hR
    have HRR := Lib.hid hR
    clear hR
    have HW := Lib.hid hW
    clear hW hD
    go_wp2
    exact HRR.out _ ⟨HW.out.bs, HW.out.ba⟩
  case hnp => rfl
  case hv => first | exact ⟨_, fun _ => rfl⟩ | exact ⟨undef, fun _ => rfl⟩
  apply obl_nil
  intro D y w8 hall hW
  have C3 := Lib.hid hW.bs
  clear hW hall
  generalize y 14 = y14 at *
  go_wp2_with fail
  refine (shop36 _).mono ?_
  rintro e w3 ⟨vt, vl, rfl, hs, hb⟩
  have HSH := Lib.hid hs
  have C4 := Lib.hid (C3.out.call hb)
  clear hs hb C3
  go_wp2_with fail
  refine (batches37 _).mono ?_
  rintro e w4 ⟨u, rfl, hs, hb⟩
  have HBA := Lib.hid hs
  have HSH := Lib.hid (HSH.out.next hb)
  have C5 := Lib.hid (C4.out.call hb)
  clear hs hb C4
  obtain ⟨a, c, rfl, hc, -⟩ := sl_shape HBA.out
  have hc : 2 ≤ c := hc
  go_wp2_with fail
  have hc := take_any exShop [exBat0] 0 vt vl (.slice a 1 c) w4 HSH.out (HBA.out.take 1 (by decide))
  rw [ex_take0] at hc
  refine hc.mono ?_
  rintro e w5 ⟨rfl, hb⟩
  have C6 := Lib.hid ((C5.out.call hb).push _ rfl (.cells #[.int .i64 0, .int .i64 99200] 51))
  clear hb hc C5
  obtain ⟨gk, hgk⟩ : ∃ gk, w5.heap.size = gk := ⟨_, rfl⟩
  rw [hgk] at C6
  go_wp2_with fail
  refine wp_region_inv0 (by kernel_rfl) (by kernel_rfl) (fun D w' => Bs w ([(gt, .cells #[.string ⟨#[114, 111, 115, 101]⟩, .int .i64 0, .int .i64 60000, .int .i64 5, .int .i64 0, .string ⟨#[114, 101, 100]⟩, .int .i64 1, .int .i64 2000, .int .i64 0, .int .i64 10, .string ⟨#[108, 101, 97, 100]⟩, .int .i64 2, .int .i64 61, .int .i64 0, .int .i64 0] 62), (g2, .cells #[.int .i64 0, .int .i64 0, .int .i64 0, .int .i64 0, .int .i64 0, .int .i64 2] 51), (g3, .cells #[.int .i64 10000, .int .i64 20000, .int .i64 500, .int .i64 1000, .int .i64 0, .int .i64 300] 51), (gl, .cells #[.string ⟨#[98, 101, 101, 115]⟩, .slice (some ⟨g2, 0, none⟩) 3 3, .string ⟨#[115, 116, 117, 98, 115]⟩, .slice (some ⟨g3, 0, none⟩) 3 3] 83)] ++ [(gb, .cells #[.slice (some ⟨gt, 0, none⟩) 3 3, .slice (some ⟨gl, 0, none⟩) 2 2] 25)] ++ [(gk, .cells #[.int .i64 0, .int .i64 99200] 51)]) w') C6.out.drew ?_
  apply obl_det
  case hrun =>
    intro D y wz hW hD R hR
    have HRR := Lib.hid hR
    clear hR
    have HW := Lib.hid hW
    clear hW hD
    go_wp2
    exact HRR.out _ HW.out
  case hnp => rfl
  case hv => first | exact ⟨_, fun _ => rfl⟩ | exact ⟨undef, fun _ => rfl⟩
  apply obl_det
  case hrun =>
    intro D y wz hW hD R hR
    have HRR := Lib.hid hR
    clear hR
    have HW := Lib.hid hW
    clear hW hD
    go_wp2
    exact HRR.out _ HW.out
  case hnp => rfl
  case hv => first | exact ⟨_, fun _ => rfl⟩ | exact ⟨undef, fun _ => rfl⟩
  apply obl_det
  case hrun =>
    intro D y wz hW hD R hR
    have HRR := Lib.hid hR
    clear hR
    have HW := Lib.hid hW
    clear hW hD
    go_wp2
    exact HRR.out _ HW.out
  case hnp => rfl
  case hv => first | exact ⟨_, fun _ => rfl⟩ | exact ⟨undef, fun _ => rfl⟩
  apply obl_det
  case hrun =>
    intro D y wz hW hD R hR
    have HRR := Lib.hid hR
    clear hR
    have HW := Lib.hid hW
    clear hW hD
    go_wp2
    exact HRR.out _ HW.out
  case hnp => rfl
  case hv => first | exact ⟨_, fun _ => rfl⟩ | exact ⟨undef, fun _ => rfl⟩
  apply obl_det
  case hrun =>
    intro D y wz hW hD R hR
    have HRR := Lib.hid hR
    clear hR
    have HW := Lib.hid hW
    clear hW hD
    go_wp2
    exact HRR.out _ HW.out
  case hnp => rfl
  case hv => first | exact ⟨_, fun _ => rfl⟩ | exact ⟨undef, fun _ => rfl⟩
  apply obl_det
  case hrun =>
    intro D y wz hW hD R hR
    have HRR := Lib.hid hR
    clear hR
    have HW := Lib.hid hW
    clear hW hD
    go_wp2
    exact HRR.out _ HW.out
  case hnp => rfl
  case hv => first | exact ⟨_, fun _ => rfl⟩ | exact ⟨undef, fun _ => rfl⟩
  apply obl_det
  case hrun =>
    intro D y wz hW hD R hR
    have HRR := Lib.hid hR
    clear hR
    have HW := Lib.hid hW
    clear hW hD
    go_wp2
    exact HRR.out _ HW.out
  case hnp => rfl
  case hv => first | exact ⟨_, fun _ => rfl⟩ | exact ⟨undef, fun _ => rfl⟩
  apply obl_det
  case hrun =>
    intro D y wz hW hD R hR
    have HRR := Lib.hid hR
    clear hR
    have HW := Lib.hid hW
    clear hW hD
    go_wp2
    exact HRR.out _ HW.out
  case hnp => rfl
  case hv => first | exact ⟨_, fun _ => rfl⟩ | exact ⟨undef, fun _ => rfl⟩
  apply obl_det
  case hrun =>
    intro D y wz hW hD R hR
    have HRR := Lib.hid hR
    clear hR
    have HW := Lib.hid hW
    clear hW hD
    go_wp2
    exact HRR.out _ HW.out
  case hnp => rfl
  case hv => first | exact ⟨_, fun _ => rfl⟩ | exact ⟨undef, fun _ => rfl⟩
  apply obl_det
  case hrun =>
    intro D y wz hW hD R hR
    have HRR := Lib.hid hR
    clear hR
    have HW := Lib.hid hW
    clear hW hD
    go_wp2
    exact HRR.out _ HW.out
  case hnp => rfl
  case hv => first | exact ⟨_, fun _ => rfl⟩ | exact ⟨undef, fun _ => rfl⟩
  apply obl_det
  case hrun =>
    intro D y wz hW hD R hR
    have HRR := Lib.hid hR
    clear hR
    have HW := Lib.hid hW
    clear hW hD
    go_wp2
    exact HRR.out _ HW.out
  case hnp => rfl
  case hv => first | exact ⟨_, fun _ => rfl⟩ | exact ⟨undef, fun _ => rfl⟩
  apply obl_det
  case hrun =>
    intro D y wz hW hD R hR
    have HRR := Lib.hid hR
    clear hR
    have HW := Lib.hid hW
    clear hW hD
    go_wp2
    exact HRR.out _ HW.out
  case hnp => rfl
  case hv => first | exact ⟨_, fun _ => rfl⟩ | exact ⟨undef, fun _ => rfl⟩
  apply obl_det
  case hrun =>
    intro D y wz hW hD R hR
    have HRR := Lib.hid hR
    clear hR
    have HW := Lib.hid hW
    clear hW hD
    go_wp2
    exact HRR.out _ HW.out
  case hnp => rfl
  case hv => first | exact ⟨_, fun _ => rfl⟩ | exact ⟨undef, fun _ => rfl⟩
  apply obl_det
  case hrun =>
    intro D y wz hW hD R hR
    have HRR := Lib.hid hR
    clear hR
    have HW := Lib.hid hW
    clear hW hD
    go_wp2
    exact HRR.out _ HW.out
  case hnp => rfl
  case hv => first | exact ⟨_, fun _ => rfl⟩ | exact ⟨undef, fun _ => rfl⟩
  apply obl_det
  case hrun =>
    intro D y wz hW hD R hR
    have HRR := Lib.hid hR
    clear hR
    have HW := Lib.hid hW
    clear hW hD
    go_wp2
    exact HRR.out _ HW.out
  case hnp => rfl
  case hv => first | exact ⟨_, fun _ => rfl⟩ | exact ⟨undef, fun _ => rfl⟩
  apply obl_det
  case hrun =>
    intro D y wz hW hD R hR
    have HRR := Lib.hid hR
    clear hR
    have HW := Lib.hid hW
    clear hW hD
    refine wpList_load_want rfl 51 _ rfl _ rfl _ _ _ _ (HW.out.get 5 rfl) Try.underlying51 rfl info51 ?_
    go_simp
    exact HRR.out _ HW.out
  case hnp => rfl
  case hv => first | exact ⟨_, fun _ => rfl⟩ | exact ⟨undef, fun _ => rfl⟩
  apply obl_det
  case hrun =>
    intro D y wz hW hD R hR
    have HRR := Lib.hid hR
    clear hR
    have HW := Lib.hid hW
    clear hW hD
    go_wp2_with fail
    refine (span38 0 99200 _).mono ?_
    rintro e w' ⟨rfl, hb⟩
    have HW2 := Lib.hid (HW.out.call hb)
    clear hb
    go_wp2_with fail
    exact HRR.out _ HW2.out
  case hnp => rfl
  case hv => first | exact ⟨_, fun _ => rfl⟩ | exact ⟨undef, fun _ => rfl⟩
  apply obl_det
  case hrun =>
    intro D y wz hW hD R hR
    have HRR := Lib.hid hR
    clear hR
    have HW := Lib.hid hW
    clear hW hD
    go_wp2
    exact HRR.out _ HW.out
  case hnp => rfl
  case hv => first | exact ⟨_, fun _ => rfl⟩ | exact ⟨undef, fun _ => rfl⟩
  apply obl_det
  case hrun =>
    intro D y wz hW hD R hR
    have HRR := Lib.hid hR
    clear hR
    have HW := Lib.hid hW
    clear hW hD
    go_wp2
    exact HRR.out _ HW.out
  case hnp => rfl
  case hv => first | exact ⟨_, fun _ => rfl⟩ | exact ⟨undef, fun _ => rfl⟩
  apply obl_det
  case hrun =>
    intro D y wz hW hD R hR
    have HRR := Lib.hid hR
    clear hR
    have HW := Lib.hid hW
    clear hW hD
    go_wp2
    exact HRR.out _ HW.out
  case hnp => rfl
  case hv => first | exact ⟨_, fun _ => rfl⟩ | exact ⟨undef, fun _ => rfl⟩
  apply obl_det
  case hrun =>
    intro D y wz hW hD R hR
    have HRR := Lib.hid hR
    clear hR
    have HW := Lib.hid hW
    clear hW hD
    go_wp2_with fail
    refine (awake_any _).mono ?_
    rintro e w' ⟨rfl, hb⟩
    have HW2 := Lib.hid (HW.out.call hb)
    clear hb
    go_wp2_with fail
    exact HRR.out _ HW2.out
  case hnp => rfl
  case hv => first | exact ⟨_, fun _ => rfl⟩ | exact ⟨undef, fun _ => rfl⟩
  apply obl_det
  case hrun =>
    intro D y wz hW hD R hR
    have HRR := Lib.hid hR
    clear hR
    have HW := Lib.hid hW
    clear hW hD
    go_wp2
    exact HRR.out _ HW.out
  case hnp => rfl
  case hv => first | exact ⟨_, fun _ => rfl⟩ | exact ⟨undef, fun _ => rfl⟩
  apply obl_det
  case hrun =>
    intro D y wz hW hD R hR
    have HRR := Lib.hid hR
    clear hR
    have HW := Lib.hid hW
    clear hW hD
    go_wp2
    exact HRR.out _ HW.out
  case hnp => rfl
  case hv => first | exact ⟨_, fun _ => rfl⟩ | exact ⟨undef, fun _ => rfl⟩
  apply obl_nil
  intro D y w9 hall hW
  have HB := Lib.hid hW.bel
  clear hW hall
  go_wp2_with fail
  go_ret
  exact ⟨rfl, HB.out⟩
end Go.Proofs.Ytaigbhhmmdfdcaa
