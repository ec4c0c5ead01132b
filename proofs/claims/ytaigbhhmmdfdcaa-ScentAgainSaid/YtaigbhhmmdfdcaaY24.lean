/- Truth of the laws. -/
import Derived.Test.YtaigbhhmmdfdcaaY22
import Derived.Test.YtaigbhhmmdfdcaaY19
import Derived.Test.YtaigbhhmmdfdcaaP9
import Derived.Test.YtaigbhhmmdfdcaaY23
namespace Go.Proofs.Ytaigbhhmmdfdcaa
open Go.RowKit
theorem spOk_part {s : Shop} (h : ShopOk s) {i : Nat} (hi : i < s.lots.length) : SpOk (s.lots.getD i default).parts := fun t _ => by have := h.part i hi t; omega
theorem spOk_added {s : Shop} {l : List Bat} {k : Nat} (h : BatOk0 s l k) : SpOk (l.getD k default).added := fun t _ => by have := h.add t; omega
theorem spOk_back {s : Shop} {l : List Bat} (h : AllGood s l) {i k : Nat} (hi : i < k) (hk : k < l.length) : SpOk (backV s l i) := fun t ht => by
  have ht' : t < s.things.length := by simpa [backV] using ht
  have hp := par_ok h.sh h.n6 (k := k) (fun j hj => h.pre j (by omega)) (by omega) hi t
  unfold parV at hp
  unfold backV
  rw [mapr_get _ _ _ ht']
  omega
set_option maxRecDepth 100000 in
set_option maxHeartbeats 16000000 in
theorem truth41 (s : Shop) (l : List Bat) (k : Nat) (x : List Int) (hx : Turns x) (hg : AllGood s l) (hk : k < l.length) (vt vl v vx : Value) (w : World) (hv : ShopAt w.heap.size w vt vl s) (hl' : BatsIn w.heap.size w v l) (hvx : IntsIn .u32 w.heap.size w vx x) :
    Calls Try.prog 41 #[.agg #[vt, vl], v, .int .i64 k, vx] w fun e w' => ∃ t, e = .returned t ∧ IsTru (turnT s l k x) w' t ∧ Below w.heap.size w w' := by
  have HS := Lib.hid hv
  have HL := Lib.hid hl'
  have HG := Lib.hid hg
  have HX := Lib.hid hx
  have HVX := Lib.hid hvx
  obtain ⟨ax, cx, rfl, -⟩ := hvx
  clear hx
  obtain ⟨ta, tc, rfl, -, -⟩ := sl_shape hv.1
  obtain ⟨la, lc, rfl, -, -⟩ := sl_shape hv.2
  obtain ⟨a, c, rfl, -, -⟩ := sl_shape hl'
  clear hv hl'
  have hn6 := hg.n6
  have hnt5 := hg.sh.nt5
  have hnl6 := hg.sh.nl6
  have HBO := Lib.hid (bat_ok0 (batchE_zero (hg.pre k hk)).1)
  clear hg
  have C0 : Hid (Bs w [(w.heap.size, .cells #[.slice ta s.things.length tc, .slice la s.lots.length lc] 25), (w.heap.size + 1, .cells #[.slice none 0 0, .slice none 0 0, .slice none 0 0] 44)] _) := ((Bs.nil w).push _ rfl (.cells #[.slice ta s.things.length tc, .slice la s.lots.length lc] 25)).push (w.heap.size + 1) (by simp) (.cells #[.slice none 0 0, .slice none 0 0, .slice none 0 0] 44)
  have hki : (k : Int) < (l.length : Int) := by omega
  obtain ⟨b, o, he, hbb, vg, vb, va, hd1, hd2, hd3, hat⟩ := HL.out.at' hk
  cases he
  have HD2 : Hid (w.cell? ⟨b, o + k * 3 + 1, none⟩ = some vb) := hd2
  have HD3 : Hid (w.cell? ⟨b, o + k * 3 + 2, none⟩ = some va) := hd3
  have HBB := Lib.hid hbb
  have HAB := Lib.hid hat.2.1
  have HAA := Lib.hid hat.2.2
  clear hd1 hd2 hd3 hat hbb
  obtain ⟨a3, c3, rfl, -⟩ := sl_shape HAA.out
  obtain ⟨a2, c2, rfl, -⟩ := HAB.out
  have HAL : Hid ((l.getD k default).added.length = s.things.length) := HBO.out.alen
  rw [HAL.out] at HD3 HAA
  obtain ⟨nb, hnb⟩ : ∃ nb, (l.getD k default).back.length = nb := ⟨_, rfl⟩
  rw [hnb] at HD2 HAB
  have HNB := Lib.hid hnb
  clear hnb
  have h3 := (C0.out.bel.cell (p := ⟨b, o + k * 3 + 2, none⟩) HBB.out).trans HD3.out
  have HE := Lib.hid (picked81_own (l.getD k default).added x 0 (by rw [HBO.out.alen]; omega) (spOk_added HBO.out) HX.out (by omega) _ (.slice ax x.length cx) _ ((HAA.out.below C0.out.bel).mono C0.out.bel.size) ((HVX.out.below C0.out.bel).mono C0.out.bel.size))
  go_enter Try.func41, Try.ntmps41
  go_wp2_with fail
  refine HE.out.mono ?_
  rintro e w1 ⟨u, rfl, hu, hb⟩
  have C1 := Lib.hid (C0.out.call hb)
  have HU : Hid (OwnInts w.heap.size w1 u (pickedV (l.getD k default).added x 0)) := ownsRow.le hu C0.out.bel.size
  clear hb hu C0 h3 HE
  obtain ⟨ua, uc, rfl⟩ : ∃ a c, u = .slice a s.things.length c := by
    obtain ⟨a, c, e⟩ := ownsRow_slice HU.out
    rw [pickedV_len, HAL.out] at e
    exact ⟨a, c, e⟩
  have C2 := Lib.hid (C1.out.push _ rfl (.cells #[.slice none 0 0, .slice none 0 0, .slice ua s.things.length uc] 44))
  have HU2 : Hid (OwnInts w.heap.size (w1.alloc (.cells #[.slice none 0 0, .slice none 0 0, .slice ua s.things.length uc] 44)) (.slice ua s.things.length uc) (pickedV (l.getD k default).added x 0)) := ownsRow.below HU.out (ba_allocB w1 _)
  go_wp2_with fail
  obtain ⟨G, hG⟩ : ∃ G, w1.heap.size = G := ⟨_, rfl⟩
  obtain ⟨W2, hW2⟩ : ∃ W, w1.alloc (.cells #[.slice none 0 0, .slice none 0 0, .slice ua s.things.length uc] 44) = W := ⟨_, rfl⟩
  rw [hG, hW2] at C2
  rw [hW2] at HU2
  rw [hW2]
  try rw [hG]
  clear hW2 hG HU C1
  obtain ⟨B, hB⟩ : ∃ B, W2.heap.size = B := ⟨_, rfl⟩
  have HBW : Hid (W2.heap.size = B) := hB
  clear hB
  have HL0 : Hid (OwnLists B W2 (.slice none 0 0) 0 [] (fun i => pickedV (s.lots.getD i default).parts x (3 * i + 1))) := ⟨rfl, World.ownsRow_nil _ _ 36 1, fun i hi => by omega⟩
  have HBG : Hid (w.heap.size ≤ B) := by rw [← HBW.out]; exact C2.out.bel.size
  obtain ⟨i0, hi0, hz0, hz1, hz2⟩ := info36'
  have HI0 := Lib.hid hi0
  have HZ0 := Lib.hid hz0
  have HZ1 := Lib.hid hz1
  have HZ2 := Lib.hid hz2
  clear hi0 hz0 hz1 hz2
  go_loopw [10] (fun iv wr => ∃ (i : Nat) (v1 : Value) (us : List Value), iv = .int .i64 i ∧ i ≤ s.lots.length ∧ Bs w [(w.heap.size, .cells #[.slice ta s.things.length tc, .slice la s.lots.length lc] 25), (w.heap.size + 1, .cells #[.slice none 0 0, .slice none 0 0, .slice none 0 0] 44), (G, .cells #[v1, .slice none 0 0, .slice ua s.things.length uc] 44)] wr ∧ B ≤ wr.heap.size ∧ OwnLists B wr v1 i us (fun i => pickedV (s.lots.getD i default).parts x (3 * i + 1)) ∧ OwnInts w.heap.size wr (.slice ua s.things.length uc) (pickedV (l.getD k default).added x 0)) (fun iv _ => s.lots.length - (intOf iv).toNat)
  case atStart => exact ⟨0, _, [], rfl, by omega, C2.out, Nat.le_of_eq HBW.out.symm, HL0.out, HU2.out⟩
  case round =>
    clear C2 HL0 HU2
    obtain ⟨i, v1, us, rfl, hi, hbs, hle, hls, hu⟩ := hrel
    have CI := Lib.hid hbs
    have HLE := Lib.hid hle
    have HLS := Lib.hid hls
    have HU := Lib.hid hu
    clear hbs hle hls hu
    have hcb1 := CI.out.cell 0 rfl 1
    by_cases hil : i < s.lots.length
    · have hii : (i : Int) < (s.lots.length : Int) := by omega
      obtain ⟨bl, ol, he, hbl, -, -, pv, hp1, hsp⟩ := HS.out.2.at' hil
      cases he
      have h1 := (CI.out.bel.cell (p := ⟨bl, ol + i * 2 + 1, none⟩) hbl).trans hp1
      have HE := Lib.hid (picked81_own (s.lots.getD i default).parts x (3 * i + 1) (by rw [HG.out.sh.plen i hil]; omega) (spOk_part HG.out.sh hil) HX.out (by omega) pv (.slice ax x.length cx) wr ((hsp.below CI.out.bel).mono CI.out.bel.size) ((HVX.out.below CI.out.bel).mono CI.out.bel.size))
      obtain ⟨pa, pc, rfl, -⟩ := sl_shape hsp
      have HPL := Lib.hid (HG.out.sh.plen i hil)
      rw [HPL.out] at h1 HE
      clear hp1 hsp hbl
      obtain ⟨va1, vc1, rfl⟩ := ownsRow_slice HLS.out.row
      have HN3 : Hid ((3 : Int) * (i : Int) + 1 = ((3 * i + 1 : Nat) : Int)) := by unfold Hid; push_cast; rfl
      have hi6 : i ≤ 6 := by omega
      go_wp2_with fail
      rw [HN3.out]
      refine HE.out.mono ?_
      rintro e w3 ⟨y, rfl, hy, hb⟩
      have CJ := Lib.hid (CI.out.call hb)
      have HLE3 : Hid (B ≤ w3.heap.size) := Nat.le_trans HLE.out hb.size
      have HLS3 := Lib.hid (OwnLists.call HLS.out hb)
      have HU3 : Hid (OwnInts w.heap.size w3 (.slice ua s.things.length uc) (pickedV (l.getD k default).added x 0)) := ownsRow.below HU.out hb
      have HY : Hid (OwnInts B w3 y (pickedV (s.lots.getD i default).parts x (3 * i + 1))) := ownsRow.le hy HLE.out
      clear hb hy h1 HE CI HLE HLS HU hcb1
      obtain ⟨ya, yc, rfl⟩ : ∃ a c, y = .slice a s.things.length c := by
        obtain ⟨a, c, e⟩ := ownsRow_slice HY.out
        rw [pickedV_len, HPL.out] at e
        exact ⟨a, c, e⟩
      have CK := Lib.hid (CJ.out.alloc (.cells #[.slice ya s.things.length yc] 36))
      have HLS4 := Lib.hid (OwnLists.call HLS3.out (ba_allocB w3 (.cells #[.slice ya s.things.length yc] 36)))
      have HY4 : Hid (OwnInts B (w3.alloc (.cells #[.slice ya s.things.length yc] 36)) (.slice ya s.things.length yc) (pickedV (s.lots.getD i default).parts x (3 * i + 1))) := ownsRow.below HY.out (ba_allocB w3 _)
      have HU4 : Hid (OwnInts w.heap.size (w3.alloc (.cells #[.slice ya s.things.length yc] 36)) (.slice ua s.things.length uc) (pickedV (l.getD k default).added x 0)) := ownsRow.below HU3.out (ba_allocB w3 _)
      have HLE4 : Hid (B ≤ (w3.alloc (.cells #[.slice ya s.things.length yc] 36)).heap.size) := Nat.le_trans HLE3.out (ba_allocB w3 _).size
      have HNW := Lib.hid (heap_alloc_new w3 (.cells #[.slice ya s.things.length yc] 36))
      have hf0 := CJ.out.cell 2 rfl 0
      go_wp2_with (first | (refine wpList_cell_bb rfl 42 _ _ rfl CL.out 2 G 0 _ 44 rfl rfl _ rfl (by simp) rfl info42 ?_; intro w13 hC13 hB13) | (at_builtin; refine wpList_append_own _ rfl _ _ 42 rfl B 36 i0 (.slice none 0 0) 1 24 Try.underlying42 HI0.out HZ0.out HZ1.out HZ2.out rfl (by decide) _ _ _ rfl HLS4.out.row ⟨w3.heap.size, 0, none⟩ 1 1 [.slice ya s.things.length yc] rfl rfl (cell_news _ _ _ _ HNW.out) (one_of _ rfl) (by unfold maxLen; omega) (by omega) HLE4.out ?_; intro v' w12 hown12 hgrow12 _; obtain ⟨xa1, xc1, rfl⟩ := ownsRow_slice hown12; have CL := Lib.hid (Bs.grown CK.out HLS4.out.row hgrow12 HBG.out (by intro p hp; simp only [List.mem_cons, List.not_mem_nil, or_false] at hp; rcases hp with rfl | rfl | rfl <;> exact ⟨_, _, rfl, by decide⟩)); have HLS5 := Lib.hid (OwnLists.more HLS4.out HY4.out hown12 hgrow12); have HU5 : Hid (OwnInts w.heap.size w12 (.slice ua s.things.length uc) (pickedV (l.getD k default).added x 0)) := ownsRow.grown2 HU4.out HLS4.out.row hgrow12 (by decide); have HLE5 : Hid (B ≤ w12.heap.size) := Nat.le_trans HLE4.out hgrow12.size; clear hown12 hgrow12 hf0))
      have hgG := CL.out.get 2 rfl
      have HLS6 := OwnLists.but HLS5.out hB13 hgG (by decide) (by decide)
      have HU6 : OwnInts w.heap.size w13 (.slice ua s.things.length uc) (pickedV (l.getD k default).added x 0) := ownsRow.but HU5.out hB13 hgG (by decide)
      refine ⟨⟨i + 1, _, _, by push_cast; rfl, by omega, hC13, Nat.le_trans HLE5.out hB13.size, HLS6, HU6⟩, ?_⟩
      simp [intOf]; omega
    · obtain rfl : i = s.lots.length := by omega
      have hc0 := CI.out.cell 0 rfl 0
      have HRN := Lib.hid (ranges_own s l (.slice ta s.things.length tc) (.slice la s.lots.length lc) (.slice (some ⟨b, o, none⟩) l.length c) wr ((HS.out.below CI.out.bel).mono CI.out.bel.size) ((HL.out.below CI.out.bel).mono CI.out.bel.size) HG.out)
      obtain ⟨va1, vc1, rfl⟩ := ownsRow_slice HLS.out.row
      go_wp2_with fail
      refine HRN.out.mono ?_
      rintro e W3 ⟨tv, us3, rfl, hT, hb⟩
      have CJ := Lib.hid (CI.out.call hb)
      have HLS3 := Lib.hid (OwnLists.call HLS.out hb)
      have HU3 : Hid (OwnInts w.heap.size W3 (.slice ua s.things.length uc) (pickedV (l.getD k default).added x 0)) := ownsRow.below HU.out hb
      have HT3 := Lib.hid hT
      clear hb hT HRN CI HLS HU HLE hc0 hcb1
      obtain ⟨xa, xc, rfl⟩ := ownsRow_slice HT3.out.row
      have HG44 := Lib.hid (CJ.out.get 2 rfl)
      obtain ⟨B2, hB2⟩ : ∃ B2, W3.heap.size = B2 := ⟨_, rfl⟩
      have HBW2 : Hid (W3.heap.size = B2) := hB2
      have HBG2 : Hid (w.heap.size ≤ B2) := by rw [← hB2]; exact CJ.out.bel.size
      clear hB2
      have HL0 : Hid (OwnLists B2 W3 (.slice none 0 0) 0 [] (fun i => pickedV (backV s l i) x (5 * i + 2))) := ⟨rfl, World.ownsRow_nil _ _ 36 1, fun i hi => by omega⟩
      have hnbk : nb ≤ k := by rw [← HNB.out]; exact HBO.out.blen
      go_wp2_with fail
      go_loopw [13] (fun iv wr => ∃ (i : Nat) (v2 : Value) (us : List Value), iv = .int .i64 i ∧ i ≤ nb ∧ Bs w [(w.heap.size, .cells #[.slice ta s.things.length tc, .slice la s.lots.length lc] 25), (w.heap.size + 1, .cells #[.slice none 0 0, .slice none 0 0, .slice none 0 0] 44), (G, .cells #[.slice va1 s.lots.length vc1, v2, .slice ua s.things.length uc] 44)] wr ∧ But G W3 wr ∧ OwnLists B2 wr v2 i us (fun i => pickedV (backV s l i) x (5 * i + 2))) (fun iv _ => nb - (intOf iv).toNat)
      case atStart => exact ⟨0, _, [], rfl, by omega, CJ.out, But.refl _ _, HL0.out⟩
      case round =>
        clear CJ HL0
        obtain ⟨i, v2, us2, rfl, hi, hbs, hbut, hls⟩ := hrel
        have CI := Lib.hid hbs
        have HBT := Lib.hid hbut
        have HLS := Lib.hid hls
        have HLE : Hid (B2 ≤ wr.heap.size) := by rw [← HBW2.out]; exact hbut.size
        clear hbs hbut hls
        have h2 := (CI.out.bel.cell (p := ⟨b, o + k * 3 + 1, none⟩) HBB.out).trans HD2.out
        obtain ⟨va2, vc2, rfl⟩ := ownsRow_slice HLS.out.row
        by_cases hib : i < nb
        · have hii : (i : Int) < (nb : Int) := by omega
          have HTT : Hid (TableIn wr.heap.size wr (.slice xa l.length xc) (rangesV s l)) := OwnTable.table (OwnTable.but HT3.out HBT.out HG44.out (by decide) (by decide)) (by omega) (fun i hi => by rw [row_eq s l hi]; simp; omega) (rangesV s l) (rangesV_length s l) (fun i _ => rfl)
          have HBK := Lib.hid (back82 s l i HG.out (by omega) (.slice (some ⟨b, o, none⟩) l.length c) (.slice xa l.length xc) wr ((HL.out.below CI.out.bel).mono CI.out.bel.size) HTT.out)
          have hbl : (backV s l i).length = s.things.length := by simp [backV]
          have HBLN := Lib.hid hbl
          clear hbl
          go_wp2_with fail
          refine HBK.out.mono ?_
          rintro e w3 ⟨t, rfl, ht, hb⟩
          have HE := Lib.hid (picked81_own (backV s l i) x (5 * i + 2) (by rw [HBLN.out]; omega) (spOk_back HG.out (show i < k by omega) hk) HX.out (by omega) t (.slice ax x.length cx) w3 ht ((HVX.out.below (CI.out.bel.trans (hb.mono CI.out.bel.size))).mono (CI.out.call hb).bel.size))
          obtain ⟨pa, pc, rfl, -⟩ := sl_shape ht
          rw [HBLN.out] at HE ⊢
          have CI := Lib.hid (CI.out.call hb)
          have HBT := Lib.hid (HBT.out.trans (But.of hb))
          have HLS := Lib.hid (OwnLists.call HLS.out hb)
          have HLE := Lib.hid (Nat.le_trans HLE.out hb.size)
          clear hb ht h2 HBK HTT
          have HN5 : Hid ((5 : Int) * (i : Int) + 2 = ((5 * i + 2 : Nat) : Int)) := by unfold Hid; push_cast; rfl
          have hi6 : i ≤ 6 := by omega
          go_wp2_with fail
          rw [HN5.out]
          refine HE.out.mono ?_
          rintro e w4 ⟨y, rfl, hy, hb⟩
          have CJ := Lib.hid (CI.out.call hb)
          have HBT4 := Lib.hid (HBT.out.trans (But.of hb))
          have HLS4 := Lib.hid (OwnLists.call HLS.out hb)
          have HLE4 := Lib.hid (Nat.le_trans HLE.out hb.size)
          have HY : Hid (OwnInts B2 w4 y (pickedV (backV s l i) x (5 * i + 2))) := ownsRow.le hy HLE.out
          clear hb hy HE CI HBT HLS HLE
          obtain ⟨ya, yc, rfl⟩ : ∃ a c, y = .slice a s.things.length c := by
            obtain ⟨a, c, e⟩ := ownsRow_slice HY.out
            rw [pickedV_len, HBLN.out] at e
            exact ⟨a, c, e⟩
          have CK := Lib.hid (CJ.out.alloc (.cells #[.slice ya s.things.length yc] 36))
          have HBT5 := Lib.hid (HBT4.out.alloc (.cells #[.slice ya s.things.length yc] 36))
          have HLS5 := Lib.hid (OwnLists.call HLS4.out (ba_allocB w4 (.cells #[.slice ya s.things.length yc] 36)))
          have HY5 : Hid (OwnInts B2 (w4.alloc (.cells #[.slice ya s.things.length yc] 36)) (.slice ya s.things.length yc) (pickedV (backV s l i) x (5 * i + 2))) := ownsRow.below HY.out (ba_allocB w4 _)
          have HLE5 : Hid (B2 ≤ (w4.alloc (.cells #[.slice ya s.things.length yc] 36)).heap.size) := Nat.le_trans HLE4.out (ba_allocB w4 _).size
          have HNW := Lib.hid (heap_alloc_new w4 (.cells #[.slice ya s.things.length yc] 36))
          have hf0 := CJ.out.cell 2 rfl 1
          go_wp2_with (first | (refine wpList_cell_bb rfl 42 _ _ rfl CL.out 2 G 1 _ 44 rfl rfl _ rfl (by simp) rfl info42 ?_; intro w13 hC13 hB13) | (at_builtin; refine wpList_append_own _ rfl _ _ 42 rfl B2 36 i0 (.slice none 0 0) 1 24 Try.underlying42 HI0.out HZ0.out HZ1.out HZ2.out rfl (by decide) _ _ _ rfl HLS5.out.row ⟨w4.heap.size, 0, none⟩ 1 1 [.slice ya s.things.length yc] rfl rfl (cell_news _ _ _ _ HNW.out) (one_of _ rfl) (by unfold maxLen; omega) (by omega) HLE5.out ?_; intro v' w12 hown12 hgrow12 _; obtain ⟨xa1, xc1, rfl⟩ := ownsRow_slice hown12; have CL := Lib.hid (Bs.grown CK.out HLS5.out.row hgrow12 HBG2.out (by intro p hp; simp only [List.mem_cons, List.not_mem_nil, or_false] at hp; rcases hp with rfl | rfl | rfl <;> exact ⟨_, _, rfl, by decide⟩)); have HLS6 := Lib.hid (OwnLists.more HLS5.out HY5.out hown12 hgrow12); have HBT6 := Lib.hid (HBT5.out.grow (by rw [HBW2.out]; exact grown_below HLS5.out.row hgrow12 (Nat.le_refl _) HLE5.out)); clear hown12 hgrow12 hf0))
          have hgG := CL.out.get 2 rfl
          have HLS7 := OwnLists.but HLS6.out hB13 hgG (by decide) (by decide)
          refine ⟨⟨i + 1, _, _, by push_cast; rfl, by omega, hC13, HBT6.out.trans hB13, HLS7⟩, ?_⟩
          simp [intOf]; omega
        · obtain rfl : i = nb := by omega
          have HLA := Lib.hid (OwnLists.but HLS3.out HBT.out HG44.out (by decide) (by decide))
          have HUA : Hid (OwnInts w.heap.size wr (.slice ua s.things.length uc) (pickedV (l.getD k default).added x 0)) := ownsRow.but HU3.out HBT.out HG44.out (by decide)
          have hf0 := CI.out.cell 2 rfl 0
          have hf1 := CI.out.cell 2 rfl 1
          have hf2 := CI.out.cell 2 rfl 2
          go_wp2_with (refine wpList_store_bb rfl 44 _ _ rfl CI.out 1 (w.heap.size + 1) _ _ 44 rfl rfl rfl info44 rfl (by simp [Value.oneCell']) ?_; intro w5 hC5 hB5)
          have hgZ := CI.out.get 1 rfl
          have hA := OwnLists.but HLA.out hB5 hgZ (by decide) (by decide)
          have hBk := OwnLists.but HLS.out hB5 hgZ (by decide) (by decide)
          have hU : OwnInts w.heap.size w5 (.slice ua s.things.length uc) (pickedV (l.getD k default).added x 0) := ownsRow.but HUA.out hB5 hgZ (by decide)
          refine bodyPost_ret (v := .agg #[_, _, _]) (results_cell_row (fn := Try.f41) rfl _ _ _ _ _ _ _ rfl (hC5.get 1 rfl) Try.underlying44 rfl info44) rfl ⟨_, rfl, ⟨_, _, _, rfl, ⟨?_, ?_, ?_⟩⟩, hC5.bel⟩
          · exact hA.lists (by omega) (fun i hi => by rw [pickedV_len, HG.out.sh.plen i hi]; omega) _ (by simp [turnT]) (fun i hi => by unfold turnT; simp only; rw [mapr_get _ _ _ hi])
          · exact hBk.lists (by omega) (fun i hi => by rw [pickedV_len]; simp [backV]; omega) _ (by unfold turnT; simp only; rw [List.length_map, List.length_range]; exact HNB.out) (fun i hi => by unfold turnT; simp only; rw [mapr_get _ _ _ (by rw [HNB.out]; exact hi)])
          · exact hU.ints (by rw [pickedV_len, HAL.out]; omega)
end Go.Proofs.Ytaigbhhmmdfdcaa
