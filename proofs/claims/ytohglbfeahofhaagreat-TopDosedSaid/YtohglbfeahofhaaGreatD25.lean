/- blend.Made: its closures and sums. -/
import Derived.Deep.Cut
import Derived.Deep.CutBlock
import Derived.Test.YtohglbfeahofhaaGreatD24
namespace Go.Proofs.YtohglbfeahofhaaGreat
open Go.RowKit
def sumN (g : Nat → Int) : Nat → Int
  | 0 => 0
  | k + 1 => sumN g k + g k
theorem sumN_in {g : Nat → Int} {n : Nat} (h : ∀ i, i < n → 0 ≤ g i ∧ g i ≤ 100000) : ∀ k, k ≤ n → 0 ≤ sumN g k ∧ sumN g k ≤ 100000 * (k : Int)
  | 0, _ => by simp [sumN]
  | k + 1, hk => by
    have h1 := sumN_in h k (by omega)
    have h2 := h k (by omega)
    have h3 : sumN g (k + 1) = sumN g k + g k := rfl
    rw [h3]
    push_cast
    omega
theorem infoLot : (Tryz.prog.info? 66).map (·.size) = some 2 := by kernel_rfl
set_option maxRecDepth 100000 in
set_option maxHeartbeats 16000000 in
theorem made50_ok {r : List Int} (hr : R3 r) (i : Nat) (hi : i < 3) (p q : Int) (hp : 0 ≤ p ∧ p ≤ 2000) (ra : Option Addr) (rcap bp : Nat) (w : World) (hb : w.heap[bp]? = some (.cells #[.slice ra 3 rcap] 30)) (hrv : IntsIn .i64 w.heap.size w (.slice ra 3 rcap) r) :
    Calls Tryz.prog 50 #[.int .i64 i, .agg #[.int .i64 p, .int .i64 q], .pointer (some ⟨bp, 0, none⟩)] w fun e w' => e = .returned (.int .i64 (r.getD i 0 * p)) ∧ Below w.heap.size w w' := by
  have hii : (i : Int) < 3 := by omega
  have HII := Lib.hid hii
  obtain ⟨rb, ro, rfl, hrbl, hrx⟩ := hrv.atU (i := i) (by rw [hr.len]; exact hi)
  have hn := hr.part i hi
  have HBB := Lib.hid (block_lt hb)
  have HBC := Lib.hid (cell_of_row _ _ 0 _ _ _ hb)
  have HRB := Lib.hid hrbl
  have HRC := Lib.hid hrx
  generalize r.getD i 0 = n at *
  have hbd := mulb (a := n) (b := p) (A := 20) (B := 2000) (by omega) (by omega)
  have HM : Hid (wrap64 (n * p) = n * p) := wrapU (by omega)
  have C0 : Hid (Bs w [(w.heap.size, .cells #[.int .i64 p, .int .i64 q] 66)] _) := Lib.hid ((Bs.nil w).push _ rfl (.cells #[.int .i64 p, .int .i64 q] 66))
  clear hb hrv hrbl hrx hr hn hp hbd hii
  go_enter Tryz.func50, Tryz.ntmps50
  go_upto_region 1 with fail
  refine wp_region_inv0 (by kernel_rfl) (by kernel_rfl) (fun D w' => Bs w [(w.heap.size, .cells #[.int .i64 p, .int .i64 q] 66)] w') C0.out.drew ?_
  iterate 8
    (apply obl_det
     case hrun =>
       intro D y wz hW hD R hR
       have HRR := Lib.hid hR
       clear hR
       have HW := Lib.hid hW
       have hii := HII.out
       have c0 := HW.out.cell 0 rfl 0
       have cb := (HW.out.bel.cell (p := ⟨bp, 0, none⟩) HBB.out).trans HBC.out
       have cr := (HW.out.bel.cell (p := ⟨rb, ro + i, none⟩) HRB.out).trans HRC.out
       have hm := HM.out
       clear hW hD
       go_wp2
       exact HRR.out _ HW.out
     case hnp => rfl
     case hv => first | exact ⟨_, fun _ => rfl⟩ | exact ⟨undef, fun _ => rfl⟩)
  apply obl_nil
  intro D y w8 hall hW
  have C8 := Lib.hid hW
  clear hW hall C0
  go_wp2_with fail
  go_ret
  exact ⟨ret_int HM.out, C8.out.bel⟩
set_option maxRecDepth 100000 in
set_option maxHeartbeats 16000000 in
theorem sum50_ok (g : Nat → Int) (l : List (Int × Int)) (hl3 : l.length = 3) (hg : ∀ i, i < 3 → 0 ≤ g i ∧ g i ≤ 100000) (bp : Nat) (v : Value) (w : World) (hv : SpansIn w.heap.size w v l)
    (hf : ∀ (i : Nat), i < 3 → ∀ w', Below w.heap.size w w' → Calls Tryz.prog 50 #[.int .i64 i, .agg #[.int .i64 (l.getD i default).1, .int .i64 (l.getD i default).2], .pointer (some ⟨bp, 0, none⟩)] w' fun e w'' => e = .returned (.int .i64 (g i)) ∧ Below w'.heap.size w' w'') :
    Calls Tryz.prog 49 #[v, .func (.func 50) #[] #[.pointer (some ⟨bp, 0, none⟩)]] w fun e w' => e = .returned (.int .i64 (sumN g 3)) ∧ Below w.heap.size w w' := by
  obtain ⟨a, cap, rfl, hcap, -⟩ := sl_shape hv
  have HV := Lib.hid hv
  have HF := Lib.hid hf
  have HS := Lib.hid (sumN_in hg)
  have HG := Lib.hid hg
  have HL := Lib.hid hl3
  rw [hl3] at HV hcap ⊢
  clear hv hf hg hl3
  have C0 : Hid (Bs w [] w) := Bs.nil w
  go_enter Tryz.func49, Tryz.ntmps49
  go_wp2_with fail
  go_loopw [4, 9] (fun av iv wr => ∃ i : Nat, av = .int .i64 (sumN g i) ∧ iv = .int .i64 i ∧ i ≤ 3 ∧ Bs w [] wr) (fun _ iv _ => 3 - (intOf iv).toNat)
  case atStart => exact ⟨0, rfl, rfl, by omega, C0.out⟩
  case round =>
    clear C0
    obtain ⟨i, rfl, rfl, hi, hbs⟩ := hrel
    have CI := Lib.hid hbs
    clear hbs
    by_cases hil : i < 3
    · have hii : (i : Int) < 3 := by omega
      obtain ⟨b, o, he, hbl, hx1, hx2⟩ : ∃ b o, a = some ⟨b, o, none⟩ ∧ b < w.heap.size ∧ w.cell? ⟨b, o + i * 2, none⟩ = some (.int .i64 (l.getD i default).1) ∧ w.cell? ⟨b, o + i * 2 + 1, none⟩ = some (.int .i64 (l.getD i default).2) := HV.out.at' (i := i) (by rw [HL.out]; exact hil)
      subst he
      have hy1 := (CI.out.bel.cell (p := ⟨b, o + i * 2, none⟩) hbl).trans hx1
      have hy2 := (CI.out.bel.cell (p := ⟨b, o + i * 2 + 1, none⟩) hbl).trans hx2
      have HFI := Lib.hid (HF.out i hil)
      have HN1 : Hid (sumN g (i + 1) = sumN g i + g i) := rfl
      have hs1 := HS.out i (by omega)
      have hs2 := HG.out i hil
      clear hx1 hx2 hbl
      generalize g i = gx at *
      generalize sumN g i = S at *
      generalize l.getD i default = p at *
      obtain ⟨p1, p2⟩ := p
      simp only at HFI hy1 hy2
      have hw1 : wrap64 (S + gx) = S + gx := wrapU (by omega)
      have HWR := Lib.hid hw1
      clear hw1 hs1 hs2
      have CP := Lib.hid (CI.out.push _ rfl (.cells #[.int .i64 0, .int .i64 0] 66))
      go_wp2_with (first | (refine wpList_store_bs rfl 66 _ _ rfl CP.out 0 _ _ _ _ rfl rfl rfl infoLot rfl (by simp [Value.oneCell']) ?_; intro w5 hC; have C5 : Hid (Bs w [(wr.heap.size, .cells #[.int .i64 p1, .int .i64 p2] 66)] w5) := hC; clear hC CP CI hy1 hy2) | (refine wpList_load_row rfl 66 _ rfl _ rfl _ _ _ _ (C5.out.get 0 rfl) Tryz.underlying66 rfl infoLot ?_))
      refine (HFI.out _ C5.out.bel).mono ?_
      rintro e w6 ⟨rfl, hb⟩
      have C6 := Lib.hid (C5.out.call hb)
      clear hb C5
      go_wp2_with fail
      refine ⟨⟨i + 1, by rw [HN1.out, HWR.out], by push_cast; rfl, by omega, C6.out.sub [] (by simp)⟩, ?_⟩
      simp [intOf]; omega
    · obtain rfl : i = 3 := by omega
      go_wp2_with fail
      go_ret
      exact ⟨rfl, CI.out.bel⟩
set_option maxRecDepth 100000 in
set_option maxHeartbeats 16000000 in
theorem made51_ok {r : List Int} (hr : R3 r) (i : Nat) (hi : i < 3) (p q : Int) (hp : 0 ≤ q ∧ q ≤ 2000) (ra : Option Addr) (rcap bp : Nat) (w : World) (hb : w.heap[bp]? = some (.cells #[.slice ra 3 rcap] 30)) (hrv : IntsIn .i64 w.heap.size w (.slice ra 3 rcap) r) :
    Calls Tryz.prog 51 #[.int .i64 i, .agg #[.int .i64 p, .int .i64 q], .pointer (some ⟨bp, 0, none⟩)] w fun e w' => e = .returned (.int .i64 (r.getD i 0 * q)) ∧ Below w.heap.size w w' := by
  have hii : (i : Int) < 3 := by omega
  have HII := Lib.hid hii
  obtain ⟨rb, ro, rfl, hrbl, hrx⟩ := hrv.atU (i := i) (by rw [hr.len]; exact hi)
  have hn := hr.part i hi
  have HBB := Lib.hid (block_lt hb)
  have HBC := Lib.hid (cell_of_row _ _ 0 _ _ _ hb)
  have HRB := Lib.hid hrbl
  have HRC := Lib.hid hrx
  generalize r.getD i 0 = n at *
  have hbd := mulb (a := n) (b := q) (A := 20) (B := 2000) (by omega) (by omega)
  have HM : Hid (wrap64 (n * q) = n * q) := wrapU (by omega)
  have C0 : Hid (Bs w [(w.heap.size, .cells #[.int .i64 p, .int .i64 q] 66)] _) := Lib.hid ((Bs.nil w).push _ rfl (.cells #[.int .i64 p, .int .i64 q] 66))
  clear hb hrv hrbl hrx hr hn hp hbd hii
  go_enter Tryz.func51, Tryz.ntmps51
  go_upto_region 1 with fail
  refine wp_region_inv0 (by kernel_rfl) (by kernel_rfl) (fun D w' => Bs w [(w.heap.size, .cells #[.int .i64 p, .int .i64 q] 66)] w') C0.out.drew ?_
  iterate 8
    (apply obl_det
     case hrun =>
       intro D y wz hW hD R hR
       have HRR := Lib.hid hR
       clear hR
       have HW := Lib.hid hW
       have hii := HII.out
       have c0 := HW.out.cell 0 rfl 1
       have cb := (HW.out.bel.cell (p := ⟨bp, 0, none⟩) HBB.out).trans HBC.out
       have cr := (HW.out.bel.cell (p := ⟨rb, ro + i, none⟩) HRB.out).trans HRC.out
       have hm := HM.out
       clear hW hD
       go_wp2
       exact HRR.out _ HW.out
     case hnp => rfl
     case hv => first | exact ⟨_, fun _ => rfl⟩ | exact ⟨undef, fun _ => rfl⟩)
  apply obl_nil
  intro D y w8 hall hW
  have C8 := Lib.hid hW
  clear hW hall C0
  go_wp2_with fail
  go_ret
  exact ⟨ret_int HM.out, C8.out.bel⟩
set_option maxRecDepth 100000 in
set_option maxHeartbeats 16000000 in
theorem sum51_ok (g : Nat → Int) (l : List (Int × Int)) (hl3 : l.length = 3) (hg : ∀ i, i < 3 → 0 ≤ g i ∧ g i ≤ 100000) (bp : Nat) (v : Value) (w : World) (hv : SpansIn w.heap.size w v l)
    (hf : ∀ (i : Nat), i < 3 → ∀ w', Below w.heap.size w w' → Calls Tryz.prog 51 #[.int .i64 i, .agg #[.int .i64 (l.getD i default).1, .int .i64 (l.getD i default).2], .pointer (some ⟨bp, 0, none⟩)] w' fun e w'' => e = .returned (.int .i64 (g i)) ∧ Below w'.heap.size w' w'') :
    Calls Tryz.prog 49 #[v, .func (.func 51) #[] #[.pointer (some ⟨bp, 0, none⟩)]] w fun e w' => e = .returned (.int .i64 (sumN g 3)) ∧ Below w.heap.size w w' := by
  obtain ⟨a, cap, rfl, hcap, -⟩ := sl_shape hv
  have HV := Lib.hid hv
  have HF := Lib.hid hf
  have HS := Lib.hid (sumN_in hg)
  have HG := Lib.hid hg
  have HL := Lib.hid hl3
  rw [hl3] at HV hcap ⊢
  clear hv hf hg hl3
  have C0 : Hid (Bs w [] w) := Bs.nil w
  go_enter Tryz.func49, Tryz.ntmps49
  go_wp2_with fail
  go_loopw [4, 9] (fun av iv wr => ∃ i : Nat, av = .int .i64 (sumN g i) ∧ iv = .int .i64 i ∧ i ≤ 3 ∧ Bs w [] wr) (fun _ iv _ => 3 - (intOf iv).toNat)
  case atStart => exact ⟨0, rfl, rfl, by omega, C0.out⟩
  case round =>
    clear C0
    obtain ⟨i, rfl, rfl, hi, hbs⟩ := hrel
    have CI := Lib.hid hbs
    clear hbs
    by_cases hil : i < 3
    · have hii : (i : Int) < 3 := by omega
      obtain ⟨b, o, he, hbl, hx1, hx2⟩ : ∃ b o, a = some ⟨b, o, none⟩ ∧ b < w.heap.size ∧ w.cell? ⟨b, o + i * 2, none⟩ = some (.int .i64 (l.getD i default).1) ∧ w.cell? ⟨b, o + i * 2 + 1, none⟩ = some (.int .i64 (l.getD i default).2) := HV.out.at' (i := i) (by rw [HL.out]; exact hil)
      subst he
      have hy1 := (CI.out.bel.cell (p := ⟨b, o + i * 2, none⟩) hbl).trans hx1
      have hy2 := (CI.out.bel.cell (p := ⟨b, o + i * 2 + 1, none⟩) hbl).trans hx2
      have HFI := Lib.hid (HF.out i hil)
      have HN1 : Hid (sumN g (i + 1) = sumN g i + g i) := rfl
      have hs1 := HS.out i (by omega)
      have hs2 := HG.out i hil
      clear hx1 hx2 hbl
      generalize g i = gx at *
      generalize sumN g i = S at *
      generalize l.getD i default = p at *
      obtain ⟨p1, p2⟩ := p
      simp only at HFI hy1 hy2
      have hw1 : wrap64 (S + gx) = S + gx := wrapU (by omega)
      have HWR := Lib.hid hw1
      clear hw1 hs1 hs2
      have CP := Lib.hid (CI.out.push _ rfl (.cells #[.int .i64 0, .int .i64 0] 66))
      go_wp2_with (first | (refine wpList_store_bs rfl 66 _ _ rfl CP.out 0 _ _ _ _ rfl rfl rfl infoLot rfl (by simp [Value.oneCell']) ?_; intro w5 hC; have C5 : Hid (Bs w [(wr.heap.size, .cells #[.int .i64 p1, .int .i64 p2] 66)] w5) := hC; clear hC CP CI hy1 hy2) | (refine wpList_load_row rfl 66 _ rfl _ rfl _ _ _ _ (C5.out.get 0 rfl) Tryz.underlying66 rfl infoLot ?_))
      refine (HFI.out _ C5.out.bel).mono ?_
      rintro e w6 ⟨rfl, hb⟩
      have C6 := Lib.hid (C5.out.call hb)
      clear hb C5
      go_wp2_with fail
      refine ⟨⟨i + 1, by rw [HN1.out, HWR.out], by push_cast; rfl, by omega, C6.out.sub [] (by simp)⟩, ?_⟩
      simp [intOf]; omega
    · obtain rfl : i = 3 := by omega
      go_wp2_with fail
      go_ret
      exact ⟨rfl, CI.out.bel⟩
end Go.Proofs.YtohglbfeahofhaaGreat
