/- StoreCheapest: the walk. -/
import Derived.Test.YtddapabmfecidaaAW
import Derived.Test.YtddapabmfecidaaP5
import Derived.Test.YtddapabmfecidaaH1
import Derived.Test.YtddapabmfecidaaAp
import Derived.Test.YtddapabmfecidaaW14
import Derived.BigQuiet
namespace Go.Proofs.Ytddapabmfecidaa
open Go.RowKit
/-- The first k days of the way that ys draws among m stores. -/
def wayY (m : Nat) (ys : List Int) : Nat → List Int
  | 0 => []
  | k + 1 => wayY m ys k ++ [turnV ys k % m]
theorem wayY_len (m : Nat) (ys : List Int) : ∀ k, (wayY m ys k).length = k
  | 0 => rfl
  | k + 1 => by simp [wayY, wayY_len m ys k]
theorem wayY_at (m : Nat) (ys : List Int) : ∀ n d, d < n → (wayY m ys n).getD d 0 = turnV ys d % m
  | 0, d, h => by omega
  | n + 1, d, h => by
    rw [wayY, List.getD_eq_getElem?_getD]
    by_cases hk : d < n
    · rw [List.getElem?_append_left (by rw [wayY_len]; exact hk), ← List.getD_eq_getElem?_getD]; exact wayY_at m ys n d hk
    · obtain rfl : d = n := by omega
      rw [List.getElem?_append_right (by rw [wayY_len]; omega), wayY_len, Nat.sub_self]; rfl
theorem wayY_in (s : Sea) (ys : List Int) (hm : 1 ≤ s.stores.length) (n : Nat) : WayIn s (wayY s.stores.length ys n) := by
  intro d hd
  rw [wayY_len] at hd
  rw [wayY_at _ _ _ _ hd]
  exact ⟨Int.emod_nonneg _ (by omega), Int.emod_lt_of_pos _ (by omega)⟩
/-- Where lists part first, one that comes first is less. -/
theorem lexLe_part : ∀ (a b : List Int) (k : Nat), lexLe a b → k < a.length → k < b.length → (∀ i, i < k → a.getD i 0 = b.getD i 0) → a.getD k 0 ≠ b.getD k 0 → a.getD k 0 < b.getD k 0
  | [], _, k, _, h, _, _, _ => by simp at h
  | _ :: _, [], k, _, _, h, _, _ => by simp at h
  | x :: a, y :: b, 0, h, _, _, _, hne => by
    rcases h with h | ⟨h, -⟩
    · exact h
    · exact absurd h hne
  | x :: a, y :: b, k + 1, h, h1, h2, he, hne => by
    have e0 := he 0 (by omega)
    rcases h with h | ⟨-, h⟩
    · simp at e0; omega
    · exact lexLe_part a b k h (by simpa using h1) (by simpa using h2) (fun i hi => by simpa using he (i + 1) (by omega)) hne
set_option maxRecDepth 100000 in
set_option maxHeartbeats 4000000 in
theorem cheapest_law (s : Sea) (vs yv : Value) (ys : List Int) (hys : ∀ x ∈ ys, 0 ≤ x ∧ x ≤ 255) (w : World) (hv : StosIn w.heap.size w vs s.stores) (hy : IntsIn .u8 w.heap.size w yv ys) :
    Calls Try.prog 8 #[.agg #[.int .i64 s.bend, .int .i64 s.days, .int .i64 s.jump, .int .i64 s.times, .int .i64 s.move, vs], yv] w (fun e w' => e = .returned (.bool true) ∧ Below w.heap.size w w') := by
  have HV := Lib.hid hv
  have HY := Lib.hid hy
  have HYS := Lib.hid hys
  obtain ⟨asl, csl, rfl, hsl, hslc, -⟩ := hv
  obtain ⟨ay, cy, rfl, hyl, -⟩ := hy
  clear hys
  have C0 : Hid (Below w.heap.size w (w.alloc (.cells #[.int .i64 s.bend, .int .i64 s.days, .int .i64 s.jump, .int .i64 s.times, .int .i64 s.move, .slice asl s.stores.length csl] 31))) := (Below.refl _ _).alloc (Nat.le_refl _) _
  have R0 : Hid ((w.alloc (.cells #[.int .i64 s.bend, .int .i64 s.days, .int .i64 s.jump, .int .i64 s.times, .int .i64 s.move, .slice asl s.stores.length csl] 31)).heap[w.heap.size]? = some (.cells #[.int .i64 s.bend, .int .i64 s.days, .int .i64 s.jump, .int .i64 s.times, .int .i64 s.move, .slice asl s.stores.length csl] 31)) := heap_alloc_new _ _
  go_enter Try.func8, Try.ntmps8
  go_wp2_with fail
  refine (cheap_any s _ _ ((HV.out.below C0.out).mono C0.out.size)).mono ?_
  rintro e' w1 ⟨wv, rfl, hwi, -, hbw⟩
  have C1 := Lib.hid (C0.out.trans (hbw.mono C0.out.size))
  have R1 := Lib.hid (block_keep R0.out hbw)
  clear hbw C0 R0
  have cs1 := fun i => cell_of_row w1 _ i _ _ _ R1.out
  obtain ⟨ok, hok⟩ : ∃ ok, s.ok = ok := ⟨_, rfl⟩
  have HOK := Lib.hid hok
  go_wp2_with fail
  refine (valid_any s _ _ ((HV.out.below C1.out).mono C1.out.size) _ HOK.out).mono ?_
  rintro e' w2 ⟨rfl, hbw⟩
  have C2 := Lib.hid (C1.out.trans (hbw.mono C1.out.size))
  have R2 := Lib.hid (block_keep R1.out hbw)
  have HWI := Lib.hid (hwi.next hbw)
  clear hbw C1 R1 cs1 hok
  obtain ⟨aw, cw, hwv, hwl, -⟩ := hwi
  subst hwv
  cases ok
  · have hne : (checkV s).2.2 ≠ 0 := by
      intro h
      have := HOK.out
      unfold Sea.ok at this
      rw [h] at this
      cases this
    rw [cheapV_bad hne] at HWI hwl ⊢
    have hzz : ((checkV s).2.2 != 0) = true := by simpa using hne
    generalize (checkV s).2.2 = e at *
    clear hne HWI
    go_wp2_with fail
    refine (awake_any _).mono ?_
    rintro e' w3 ⟨rfl, hbw⟩
    have C3 := Lib.hid (C2.out.trans (hbw.mono C2.out.size))
    clear hbw
    go_wp2_with fail
    go_ret
    exact ⟨rfl, C3.out⟩
  · have hchk : (checkV s).2.2 = 0 := by
      have := HOK.out
      unfold Sea.ok at this
      simpa using this
    have HCH := Lib.hid hchk
    have HG := Lib.hid (good_of_ok hchk)
    have hst := HG.out.stores
    have hl8 := HG.out.len
    obtain ⟨best, cents, e, hce⟩ : ∃ b c e, cheapV s = (b, c, e) := ⟨_, _, _, rfl⟩
    have HCE := Lib.hid hce
    rw [hce] at HWI hwl ⊢
    clear hchk hce
    obtain ⟨m, hm⟩ : ∃ m, s.stores.length = m := ⟨_, rfl⟩
    have HM := Lib.hid hm
    obtain ⟨n, hn⟩ : ∃ n, s.len = n := ⟨_, rfl⟩
    have HN := Lib.hid hn
    rw [hm] at hst hsl hslc HV R2 ⊢
    rw [hn] at hl8
    clear hm hn
    go_wp2_with fail
    go_loopw [8, 9, 10] (fun lv kv _ wr => ∃ (k : Nat) (av : Option Addr) (cv : Nat), kv = .int .i64 k ∧ k ≤ n ∧ lv = .slice av k cv ∧ wr.ownsRow w2.heap.size 3 1 (.slice av k cv) k ((wayY m ys k).map (Value.int .i64)) ∧ Below w2.heap.size w2 wr) (fun _ kv _ _ => n - (intOf kv).toNat)
    case atStart => exact ⟨0, none, 0, rfl, by omega, rfl, ⟨rfl, .inl ⟨rfl, rfl⟩⟩, Below.refl _ _⟩
    case round =>
      obtain ⟨k, av, cv, rfl, hk, rfl, ho, hb⟩ := hrel
      have CB := Lib.hid hb
      have HO := Lib.hid ho
      have RR := Lib.hid (block_keep R2.out hb)
      have DD := Lib.hid (C2.out.trans (hb.mono C2.out.size))
      clear hb ho
      have csr := fun i => cell_of_row wr _ i _ _ _ RR.out
      go_wp2_with fail
      have hrd := refDays_any s (.slice asl m csl) wr ((HV.out.below DD.out).mono DD.out.size) (by rw [HM.out]; omega)
      rw [HN.out] at hrd
      refine hrd.mono ?_
      rintro e' wq ⟨rfl, hbw⟩
      have CQ := Lib.hid (CB.out.trans (hbw.mono CB.out.size))
      have HOQ := Lib.hid (ownsRow.below HO.out hbw)
      have RQ := Lib.hid (block_keep RR.out hbw)
      have DQ := Lib.hid (DD.out.trans (hbw.mono DD.out.size))
      clear hbw CB HO RR DD csr hrd
      have csq := fun i => cell_of_row wq _ i _ _ _ RQ.out
      by_cases hlt : k < n
      · have HWY : Hid (wayY m ys (k + 1) = wayY m ys k ++ [turnV ys k % m]) := rfl
        by_cases h0 : ys.length = 0
        · have hz : turnV ys k = 0 := by unfold turnV; rw [if_pos h0]
          rw [hz] at HWY
          have hq : ¬ ((0 : Int) < (ys.length : Int)) := by omega
          have hq2 : decide (0 < ys.length) = false := decide_eq_false (by omega)
          have hq3 : ¬ (0 < ys.length) := by omega
          have H0 := Lib.hid h0
          clear h0
          rw [Int.zero_emod] at HWY
          have hz1m : ((m : Int) == 0) = false := beq_eq_false_iff_ne.2 (by omega)
          have hb1 : w2.heap.size ≤ wq.heap.size := CQ.out.size
          obtain ⟨i0, hi0, hz0, hz1, hz2⟩ := i64info
          go_wp2_with (at_builtin; refine wpList_append_own _ rfl _ _ 33 rfl w2.heap.size 3 i0 (.int .i64 0) 1 8 Try.underlying33 hi0 hz0 hz1 hz2 rfl (by decide) _ _ _ rfl (HOQ.out.alloc _) ⟨wq.heap.size, 0, none⟩ 1 1 [.int .i64 0] rfl rfl (cell_one_new _ _ _) (fun x hx => by simp at hx; subst hx; rfl) (by unfold maxLen; omega) (by omega) (by simp; omega) ?_; intro v' w12 hown12 hgrow12 _)
          have hlt12 := World.ownsRow.lt HOQ.out
          have CB8 := Lib.hid ((CQ.out.alloc CQ.out.size (.cells #[.int .i64 0] 3)).grown hgrow12 (by simp only [World.size_alloc]; omega) (fun k e => (hlt12 k e).1))
          obtain ⟨av', cv', rfl⟩ := ownsRow_slice1 hown12
          have HO8 := Lib.hid hown12
          clear hown12 hgrow12
          go_wp2_with fail
          refine ⟨⟨k + 1, av', cv', by push_cast; rfl, by omega, rfl, by rw [HWY.out, List.map_append]; exact HO8.out, CB8.out⟩, ?_⟩
          simp [intOf]
          omega
        · obtain ⟨i, hi⟩ : ∃ i, k % ys.length = i := ⟨_, rfl⟩
          have hil : i < ys.length := by rw [← hi]; exact Nat.mod_lt _ (by omega)
          have hT : turnV ys k = ys.getD i 0 := by unfold turnV; rw [if_neg h0, hi]
          have hzr : 0 ≤ ys.getD i 0 ∧ ys.getD i 0 ≤ 255 := HYS.out _ (by rw [List.getD_eq_getElem?_getD, List.getElem?_eq_getElem hil]; exact List.getElem_mem hil)
          obtain ⟨ay', cy', hvv, _, hcc⟩ := HY.out.below DQ.out
          simp only [Value.slice.injEq] at hvv
          obtain ⟨rfl, -, rfl⟩ := hvv
          obtain ⟨b, o, rfl, hb, hc⟩ := hcc.resolve_left (by intro h; rw [h] at h0; exact h0 rfl)
          have hci := hc i hil
          have him : ((k : Int) % (ys.length : Int)) = (i : Int) := by rw [← hi]; simp
          rw [hT] at HWY
          generalize ys.getD i 0 = z at *
          have hyz : ((ys.length : Int) == 0) = false := beq_eq_false_iff_ne.2 (by omega)
          have hyp : (0 : Int) < (ys.length : Int) := by omega
          have hzm0 : 0 ≤ z % (m : Int) := Int.emod_nonneg _ (by omega)
          have hzm1 : z % (m : Int) < (m : Int) := Int.emod_lt_of_pos _ (by omega)
          clear hc hi hT hcc
          have hz1m : ((m : Int) == 0) = false := beq_eq_false_iff_ne.2 (by omega)
          have hb1 : w2.heap.size ≤ wq.heap.size := CQ.out.size
          obtain ⟨i0, hi0, hz0, hz1, hz2⟩ := i64info
          go_wp2_with (at_builtin; refine wpList_append_own _ rfl _ _ 33 rfl w2.heap.size 3 i0 (.int .i64 0) 1 8 Try.underlying33 hi0 hz0 hz1 hz2 rfl (by decide) _ _ _ rfl (HOQ.out.alloc _) ⟨wq.heap.size, 0, none⟩ 1 1 [.int .i64 (z % (m : Int))] rfl rfl (cell_one_new _ _ _) (fun x hx => by simp at hx; subst hx; rfl) (by unfold maxLen; omega) (by omega) (by simp; omega) ?_; intro v' w12 hown12 hgrow12 _)
          have hlt12 := World.ownsRow.lt HOQ.out
          have CB8 := Lib.hid ((CQ.out.alloc CQ.out.size (.cells #[.int .i64 (z % (m : Int))] 3)).grown hgrow12 (by simp only [World.size_alloc]; omega) (fun k e => (hlt12 k e).1))
          obtain ⟨av', cv', rfl⟩ := ownsRow_slice1 hown12
          have HO8 := Lib.hid hown12
          clear hown12 hgrow12
          go_wp2_with fail
          refine ⟨⟨k + 1, av', cv', by push_cast; rfl, by omega, rfl, by rw [HWY.out, List.map_append]; exact HO8.out, CB8.out⟩, ?_⟩
          simp [intOf]
          omega
      · obtain rfl : n = k := by omega
        have HHL : Hid (wq.ownsRow w2.heap.size 3 1 (.slice av n cv) (wayY m ys n).length ((wayY m ys n).map (Value.int .i64))) := by unfold Hid; rw [wayY_len]; exact HOQ.out
        have HWY := Lib.hid (ownsRow_ints HHL.out (by rw [wayY_len]; omega)).1
        have hwin : WayIn s (wayY m ys n) := by rw [← (HM.out : s.stores.length = m)]; exact wayY_in s ys (by rw [HM.out]; omega) n
        have hwlen : (wayY m ys n).length = n := wayY_len m ys n
        have hope : openE s (wayY m ys n) = 0 := openE_mk HCH.out (by rw [hwlen]; omega) (by rw [hwlen, HN.out]; omega) hwin
        generalize wayY m ys n = way at *
        have HWIQ := Lib.hid (HWI.out.next CQ.out)
        have hcost : costV s way = (costTo s way n, 0) := by unfold costV; rw [if_pos hope, hwlen]
        obtain ⟨h, j, hrk, hh, hj⟩ : ∃ h j, riskV s way = (h, j, 0) ∧ h = MV s.bend (rl s way s.len) ∧ j = JM s.jump (rl s way s.len) := ⟨_, _, riskV_ok hope, by rw [hwlen, HN.out], by rw [hwlen, HN.out]⟩
        have hso : h < s.days → j < s.times → Sound s way := fun a b => ⟨by rw [hwlen, HN.out], hwin, by rw [← hh]; exact a, by rw [← hj]; exact b⟩
        have hspec : (e = 9 ∧ ∀ way, ¬ Sound s way) ∨ (e = 0 ∧ best.length = n ∧ ∀ way', Sound s way' → cents ≤ costTo s way' way'.length ∧ (cents = costTo s way' way'.length → lexLe best way')) := by
          have hce := HCE.out
          rcases cheap_spec HCH.out with ⟨h1, h2⟩ | ⟨b, h1, h2, h3⟩
          · rw [hce] at h1
            simp only [Prod.mk.injEq] at h1
            exact .inl ⟨h1.2.2, h2⟩
          · rw [hce] at h1
            simp only [Prod.mk.injEq] at h1
            obtain ⟨rfl, rfl, rfl⟩ := h1
            exact .inr ⟨rfl, by rw [h2.1, HN.out], h3⟩
        have HSO := Lib.hid hso
        clear hh hj hso HHL HOQ hwin
        have hc := risks_any s (.slice asl m csl) (.slice av n cv) way wq ((HV.out.below DQ.out).mono DQ.out.size) HWY.out
        rw [hrk] at hc
        go_wp2_with fail
        refine hc.mono ?_
        rintro e' w3 ⟨rfl, hbw⟩
        have D3 := Lib.hid (DQ.out.trans (hbw.mono DQ.out.size))
        have R3 := Lib.hid (block_keep RQ.out hbw)
        have HWY3 := Lib.hid (HWY.out.next hbw)
        have HWI3 := Lib.hid (HWIQ.out.next hbw)
        clear hbw hc HWY HWIQ RQ DQ csq hrk
        have cs3 := fun i => cell_of_row w3 _ i _ _ _ R3.out
        have hc := cost_any s (.slice asl m csl) (.slice av n cv) way w3 ((HV.out.below D3.out).mono D3.out.size) HWY3.out
        rw [hcost] at hc
        go_wp2_with fail
        refine hc.mono ?_
        rintro e' w4 ⟨rfl, hbw⟩
        have D4 := Lib.hid (D3.out.trans (hbw.mono D3.out.size))
        have R4 := Lib.hid (block_keep R3.out hbw)
        have HWY4 := Lib.hid (HWY3.out.next hbw)
        have HWI4 := Lib.hid (HWI3.out.next hbw)
        clear hbw hc HWY3 HWI3 R3 D3 cs3 hcost
        have cs4 := fun i => cell_of_row w4 _ i _ _ _ R4.out
        rcases hspec with ⟨rfl, hno⟩ | ⟨rfl, hbl, hmin⟩
        · have hns : s.days ≤ h ∨ s.times ≤ j := by
            rcases Int.lt_or_le h s.days with h1 | h1
            · rcases Int.lt_or_le j s.times with h2 | h2
              · exact absurd (HSO.out h1 h2) (hno way)
              · exact .inr h2
            · exact .inl h1
          clear hno
          rcases hns with hns | hns
          · have hq1 : decide (s.days ≤ h) = true := decide_eq_true hns
            clear hns
            go_wp2_with fail
            refine (awake_any _).mono ?_
            rintro e' w9 ⟨rfl, hbw⟩
            have D9 := Lib.hid (D4.out.trans (hbw.mono D4.out.size))
            clear hbw
            go_wp2_with fail
            go_ret
            exact ⟨rfl, D9.out⟩
          · have hq2 : decide (s.times ≤ j) = true := decide_eq_true hns
            clear hns
            obtain ⟨q, hq⟩ : ∃ q, decide (s.days ≤ h) = q := ⟨_, rfl⟩
            cases q
            · go_wp2_with fail
              refine (awake_any _).mono ?_
              rintro e' w9 ⟨rfl, hbw⟩
              have D9 := Lib.hid (D4.out.trans (hbw.mono D4.out.size))
              clear hbw
              go_wp2_with fail
              go_ret
              exact ⟨rfl, D9.out⟩
            · go_wp2_with fail
              refine (awake_any _).mono ?_
              rintro e' w9 ⟨rfl, hbw⟩
              have D9 := Lib.hid (D4.out.trans (hbw.mono D4.out.size))
              clear hbw
              go_wp2_with fail
              go_ret
              exact ⟨rfl, D9.out⟩
        · by_cases hns : s.days ≤ h ∨ s.times ≤ j
          · rcases hns with hns | hns
            · have hq1 : decide (s.days ≤ h) = true := decide_eq_true hns
              clear hns
              go_wp2_with fail
              refine (awake_any _).mono ?_
              rintro e' w9 ⟨rfl, hbw⟩
              have D9 := Lib.hid (D4.out.trans (hbw.mono D4.out.size))
              clear hbw
              go_wp2_with fail
              go_ret
              exact ⟨rfl, D9.out⟩
            · have hq2 : decide (s.times ≤ j) = true := decide_eq_true hns
              clear hns
              obtain ⟨q, hq⟩ : ∃ q, decide (s.days ≤ h) = q := ⟨_, rfl⟩
              cases q
              · go_wp2_with fail
                refine (awake_any _).mono ?_
                rintro e' w9 ⟨rfl, hbw⟩
                have D9 := Lib.hid (D4.out.trans (hbw.mono D4.out.size))
                clear hbw
                go_wp2_with fail
                go_ret
                exact ⟨rfl, D9.out⟩
              · go_wp2_with fail
                refine (awake_any _).mono ?_
                rintro e' w9 ⟨rfl, hbw⟩
                have D9 := Lib.hid (D4.out.trans (hbw.mono D4.out.size))
                clear hbw
                go_wp2_with fail
                go_ret
                exact ⟨rfl, D9.out⟩
          · have hsnd := HSO.out (by omega) (by omega)
            have hm1 := hmin way hsnd
            rw [hwlen] at hm1
            have HLX := Lib.hid hm1.2
            have hcn := hm1.1
            have hq1 : decide (s.days ≤ h) = false := decide_eq_false (by omega)
            have hq2 : decide (s.times ≤ j) = false := decide_eq_false (by omega)
            generalize costTo s way n = cost at *
            have hq3 : decide (cost < cents) = false := decide_eq_false (by omega)
            have hq4 : ((n : Int) != (n : Int)) = false := by simp
            rw [hbl]
            rw [hbl] at HWI4
            clear hns hsnd hm1 hmin
            go_wp2_with fail
            clear hq4
            go_loopw [16] (fun dv wu => ∃ k : Nat, dv = .int .i64 k ∧ k ≤ n ∧ (∀ i, i < k → best.getD i 0 = way.getD i 0) ∧ Below w4.heap.size w4 wu) (fun dv _ => n - (intOf dv).toNat)
            case atStart => exact ⟨0, rfl, by omega, fun i hi => by omega, Below.refl _ _⟩
            case round =>
              obtain ⟨k, rfl, hk, hsame, hb⟩ := hrel
              have CU := Lib.hid hb
              have HSM := Lib.hid hsame
              clear hb hsame
              by_cases hlt : k < n
              · by_cases hce : cost = cents
                · subst hce
                  have hq5 : (cost == cost) = true := by simp
                  obtain ⟨a1, c1, hvv, _, hcc⟩ := HWI4.out.below CU.out
                  rw [hbl] at hvv
                  simp only [Value.slice.injEq] at hvv
                  obtain ⟨rfl, -, rfl⟩ := hvv
                  obtain ⟨b1, o1, rfl, hb1, hc1⟩ := hcc.resolve_left (by intro h; rw [h] at hbl; simp at hbl; omega)
                  have hbk := hc1 k (by omega)
                  obtain ⟨a2, c2, hvv2, _, hcc2⟩ := HWY4.out.below CU.out
                  rw [hwlen] at hvv2
                  simp only [Value.slice.injEq] at hvv2
                  obtain ⟨rfl, -, rfl⟩ := hvv2
                  obtain ⟨b2, o2, rfl, hb2, hd1⟩ := hcc2.resolve_left (by intro h; rw [h] at hwlen; simp at hwlen; omega)
                  have hwk := hd1 k (by omega)
                  have hb1u : b1 < wr.heap.size := Nat.lt_of_lt_of_le hb1 CU.out.size
                  have hb2u : b2 < wr.heap.size := Nat.lt_of_lt_of_le hb2 CU.out.size
                  have HPART : Hid (best.getD k 0 ≠ way.getD k 0 → best.getD k 0 < way.getD k 0) := fun hne => lexLe_part best way k (HLX.out rfl) (by omega) (by omega) HSM.out hne
                  have HEX : Hid (best.getD k 0 = way.getD k 0 → ∀ i, i < k + 1 → best.getD i 0 = way.getD i 0) := by
                    intro he i hi
                    by_cases hik : i < k
                    · exact HSM.out i hik
                    · obtain rfl : i = k := by omega
                      exact he
                  clear hc1 hd1 hcc hcc2 hcn hq3
                  generalize best.getD k 0 = p at *
                  generalize way.getD k 0 = r at *
                  by_cases hpr : p = r
                  · subst hpr
                    have hq6 : (p != p) = false := by simp
                    have HEX2 : Hid (∀ i, i < k + 1 → best.getD i 0 = way.getD i 0) := HEX.out rfl
                    clear HEX
                    go_wp2_with fail
                    go_quiet (fail)
                    simp only [Exit.then]
                    go_wp2_with fail
                    refine ⟨⟨k + 1, by push_cast; rfl, by omega, HEX2.out, ⟨CU.out.os, CU.out.tape, CU.out.output, CU.out.size, CU.out.block⟩⟩, ?_⟩
                    simp [intOf]
                    omega
                  · have hq6 : (p != r) = true := by simpa using hpr
                    have hq7 : decide (p < r) = true := decide_eq_true (HPART.out hpr)
                    clear hpr
                    go_wp2_with fail
                    go_quiet (fail)
                    simp only [Exit.then]
                    go_wp2_with fail
                    refine wp_region_inv0 (by kernel_rfl) (by kernel_rfl) (fun _ w' => Below wr.heap.size wr w') ⟨(Below.refl wr.heap.size wr).os, (Below.refl wr.heap.size wr).tape, (Below.refl wr.heap.size wr).output, (Below.refl wr.heap.size wr).size, (Below.refl wr.heap.size wr).block⟩ ?_
                    iterate 10
                      (apply obl_det
                       case hrun =>
                         intro D y wz hW hD R hR
                         have HRR := Lib.hid hR
                         have HW := Lib.hid hW
                         have hc2 := (cellB hW).1
                         clear hR hD hW
                         go_wp2
                         exact HRR.out _ HW.out
                       case hnp => rfl
                       case hv => first | exact ⟨_, fun _ => rfl⟩ | exact ⟨undef, fun _ => rfl⟩)
                    apply obl_det
                    case hrun =>
                      intro D y wz hW hD R hR
                      have HRR := Lib.hid hR
                      have HW := Lib.hid hW
                      clear hR hD hW
                      have hc := awake_any wz
                      go_wp2_with fail
                      refine hc.mono ?_
                      rintro e w' ⟨rfl, hbw⟩
                      go_wp2_with fail
                      exact HRR.out _ (HW.out.trans (hbw.mono HW.out.size))
                    case hnp => rfl
                    case hv => first | exact ⟨_, fun _ => rfl⟩ | exact ⟨undef, fun _ => rfl⟩
                    iterate 2
                      (apply obl_det
                       case hrun =>
                         intro D y wz hW hD R hR
                         have HRR := Lib.hid hR
                         have HW := Lib.hid hW
                         have hc2 := (cellB hW).1
                         clear hR hD hW
                         go_wp2
                         exact HRR.out _ HW.out
                       case hnp => rfl
                       case hv => first | exact ⟨_, fun _ => rfl⟩ | exact ⟨undef, fun _ => rfl⟩)
                    apply obl_nil
                    intro D y w15 hall hW
                    have D15 := Lib.hid (CU.out.trans (hW.mono CU.out.size))
                    have D16 := Lib.hid (D4.out.trans (D15.out.mono D4.out.size))
                    clear hW hall
                    simp only [Exit.then]
                    go_wp2_with fail
                    go_ret
                    exact ⟨rfl, D16.out⟩
                · have hq5 : (cost == cents) = false := by simpa using hce
                  go_wp2_with fail
                  refine (awake_any _).mono ?_
                  rintro e' w9 ⟨rfl, hbw⟩
                  have D9 := Lib.hid (D4.out.trans ((CU.out.trans (hbw.mono CU.out.size)).mono D4.out.size))
                  clear hbw
                  go_wp2_with fail
                  go_ret
                  exact ⟨rfl, D9.out⟩
              · obtain rfl : n = k := by omega
                go_wp2_with fail
                refine (awake_any _).mono ?_
                rintro e' w9 ⟨rfl, hbw⟩
                have D9 := Lib.hid (D4.out.trans ((CU.out.trans (hbw.mono CU.out.size)).mono D4.out.size))
                clear hbw
                go_wp2_with fail
                go_ret
                exact ⟨rfl, D9.out⟩
end Go.Proofs.Ytddapabmfecidaa
