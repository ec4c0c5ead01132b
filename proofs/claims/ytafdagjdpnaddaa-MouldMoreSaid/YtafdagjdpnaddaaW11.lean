/- mould.minutes: the closure. -/
import Derived.Test.YtafdagjdpnaddaaW10
namespace Go.Proofs.Ytafdagjdpnaddaa
open Go.RowKit Go.Shelf
attribute [local go_sem] Oper.semAt_some
def fill8 (p : Int) (k : Nat) : List Int := List.replicate k p ++ List.replicate (8 - k) 0
theorem fill8_len {k : Nat} (h : k ≤ 8) (p : Int) : (fill8 p k).length = 8 := by simp [fill8]; omega
theorem fill8_succ {k : Nat} (h : k < 8) (p : Int) : (fill8 p k).set k p = fill8 p (k + 1) := by
  unfold fill8
  rw [List.set_append_right _ _ (by simp), List.length_replicate, Nat.sub_self, show 8 - k = (8 - (k + 1)) + 1 by omega, List.replicate_succ, List.set_cons_zero, List.replicate_succ' (n := k), List.append_assoc]
  rfl
theorem pad_inj {l l' : List Int} (h : l.length = l'.length) (e : pad l = pad l') : l = l' := (List.append_inj e h).1
theorem fill8_pad {r : Nat} (p : Int) : fill8 p r = pad (List.replicate r p) := by simp [fill8, pad]
set_option maxRecDepth 100000 in
set_option maxHeartbeats 8000000 in
theorem minutes1_cold {α : Type} (encs : α → Array Value) (day : Nat → α) (m : Mou) (hm : Valid m) (n : Nat) (hn : 1 ≤ n) (bm bo : Nat) (w : World) (hen : ∀ k, k < 601 → encs (day k) = #[.int .i64 k, .agg (ints (pad (warmL m false k)))])
    (hbm : w.heap[bm]? = some (.cells #[.int .i64 m.rings, .int .i64 m.give, .int .i64 m.pl, .int .i64 m.ph, .int .i64 m.wl, .int .i64 m.wh, .int .i64 m.set, .int .i64 m.shrink, .int .i64 m.skin, .int .i64 m.fill, .int .i64 m.gap, .int .i64 m.deep] 85)) (hbo : w.heap[bo]? = some (.cells #[.func (.func 55) #[] #[]] 96)) :
    IterGives Fence.wide n Try.prog 69 #[.pointer (some ⟨bm, 0, none⟩), .pointer (some ⟨bo, 0, none⟩)] encs (MiK w.heap.size bm bo) (fun xs => xs = upA day 601) (fun pre => ∃ k, k ≤ 601 ∧ pre = upA day k) 601 w := by
  intro l J Jx W hWb hJ hJx hY h0
  have HEN := Lib.hid hen
  have HY := Lib.hid hY
  have HJ := Lib.hid hJ
  have HM := Lib.hid hm
  have hbmW := block_keep hbm hWb
  have hboW := block_keep hbo hWb
  have hbml := block_lt hbm
  have hbol := block_lt hbo
  have hwW := hWb.size
  obtain ⟨r, hr⟩ : ∃ r : Nat, m.rings = r := ⟨m.rings.toNat, by have := hm.r1; omega⟩
  have hr1 : 1 ≤ r := by have := hm.r1; omega
  have hr8 : r ≤ 8 := by have := hm.r8; omega
  have HR := Lib.hid hr
  have HBM := Lib.hid hbmW
  have HBO := Lib.hid hboW
  clear hen hY hJ hJx hbm hbo hbmW hboW hWb hm hr
  refine callsIn_of_wp Try.func69 rfl trivial ?_ rfl
  simp only [Try.ntmps69, List.size_toArray, List.length_cons, List.length_nil, Nat.reduceAdd, Nat.reduceSub, Array.replicate_succ, Array.replicate_zero, List.push_toArray, List.append_toArray, List.nil_append, List.cons_append]
  have hbmW : bm < W.heap.size := by omega
  have hboW : bo < W.heap.size := by omega
  have c0 := fun i => cell_of_row W bm i _ _ _ HBM.out
  have C0 := Lib.hid ((Bs.nil W).push _ rfl (.cells (ints (fill8 m.pl 0)) 87))
  gi_wp2
  gi_loopw [12] (fun i wr => ∃ k : Nat, k ≤ r ∧ i = .int .i64 k ∧ Bs W [(W.heap.size, .cells (ints (fill8 m.pl k)) 87)] wr) (fun i _ => r - (intOf i).toNat)
  case atStart => exact ⟨0, by omega, rfl, C0.out⟩
  case round =>
    obtain ⟨k, hk, rfl, hC⟩ := hrel
    have C3 := Lib.hid hC
    clear c0
    have c0 := fun i => cell_of_row wr bm i _ _ _ (block_keep HBM.out hC.bel)
    have c1 := fun i => cell_of_row wr bo i _ _ _ (block_keep HBO.out hC.bel)
    clear hC
    by_cases hlt : k < r
    · have hd : decide ((k : Int) < m.rings) = true := decide_eq_true (by have := HR.out; omega)
      have hk8 : (k : Int) < 8 := by omega
      have HLT := Lib.hid hlt
      gi_wp2_with fail
      refine ⟨trivial, (callsIn_wide.2 (cold_any m _ _ _)).mono ?_⟩
      rintro e w' ⟨rfl, hbw⟩
      have C4 := Lib.hid (C3.out.call hbw)
      clear hbw C3 c0 c1
      gi_wp2_with (refine wpListIn_cell_bs rfl 3 _ _ rfl C4.out 0 _ k _ _ rfl rfl (.int .i64 m.pl) rfl (by rw [ints_size, fill8_len (by omega)]; omega) rfl info3 ?_; intro w2 hC2)
      have C5 : Hid (Bs W [(W.heap.size, .cells (ints (fill8 m.pl (k + 1))) 87)] w2) := by
        rw [ints_set, fill8_succ (by have := HLT.out; omega)] at hC2
        exact hC2
      clear C4 hC2
      gi_wp2_with fail
      go_roundw
      case rel => exact ⟨k + 1, HLT.out, by simp, C5.out⟩
      case measure => have := HLT.out; simp [intOf]; omega
    · obtain rfl : k = r := by omega
      have hd : decide ((k : Int) < m.rings) = false := decide_eq_false (by have := HR.out; omega)
      have hJ0 : Hid (J [] wr) := HJ.out [] W wr h0 C3.out.bel
      have hbmr : Hid (wr.heap[bm]? = some (.cells #[.int .i64 m.rings, .int .i64 m.give, .int .i64 m.pl, .int .i64 m.ph, .int .i64 m.wl, .int .i64 m.wh, .int .i64 m.set, .int .i64 m.shrink, .int .i64 m.skin, .int .i64 m.fill, .int .i64 m.gap, .int .i64 m.deep] 85)) := block_keep HBM.out C3.out.bel
      have hbor : Hid (wr.heap[bo]? = some (.cells #[.func (.func 55) #[] #[]] 96)) := block_keep HBO.out C3.out.bel
      have hLr : Hid (wr.heap[W.heap.size]? = some (.cells (ints (pad (warmL m false 0))) 87)) := by
        have := C3.out.get 0 rfl
        rw [fill8_pad] at this
        rw [warmL_zero, HR.out, Int.toNat_natCast]
        exact this
      have hszr : W.heap.size + 1 ≤ wr.heap.size := block_lt (C3.out.get 0 rfl)
      clear C3 c0 c1 hk hlt
      gi_wp2_with fail
      gi_loopw [6, 24] (fun st i wr => ∃ (k : Nat) (b : Bool), k ≤ 601 ∧ i = .int .i64 k ∧ st = .bool b ∧ (b = true → warmL m false (k + 1) = warmL m false k) ∧ J (upA day k) wr ∧ wr.heap[bm]? = some (.cells #[.int .i64 m.rings, .int .i64 m.give, .int .i64 m.pl, .int .i64 m.ph, .int .i64 m.wl, .int .i64 m.wh, .int .i64 m.set, .int .i64 m.shrink, .int .i64 m.skin, .int .i64 m.fill, .int .i64 m.gap, .int .i64 m.deep] 85) ∧ wr.heap[bo]? = some (.cells #[.func (.func 55) #[] #[]] 96) ∧
          wr.heap[W.heap.size]? = some (.cells (ints (pad (warmL m false k))) 87) ∧ W.heap.size + 1 ≤ wr.heap.size) (fun _ i _ => 601 - (intOf i).toNat)
      case atStart => exact ⟨0, false, by omega, rfl, rfl, by simp, hJ0.out, hbmr.out, hbor.out, hLr.out, hszr⟩
      case round =>
        obtain ⟨q, st, hq, rfl, rfl, hst, hJq, hbmq, hboq, hLq, hszq⟩ := hrel
        have HJQ := Lib.hid hJq
        have HBMQ := Lib.hid hbmq
        have HBOQ := Lib.hid hboq
        have HLQ := Lib.hid hLq
        have HST := Lib.hid hst
        clear hJq hbmq hboq hLq hst hJ0 hbmr hbor hLr
        by_cases hlt : q < 601
        · have hd2 : decide ((q : Int) < 601) = true := decide_eq_true (by omega)
          have hyx := HY.out _ (day q) _ HJQ.out (by rw [upA_length]; exact hlt) (by omega)
          rw [HEN.out q hlt] at hyx
          obtain ⟨fn, tmps, assign, body, hy, hR⟩ := hyx
          have hp8 : (pad (warmL m false q)).length = 8 := pad_length (by rw [warmL_length, HR.out, Int.toNat_natCast]; exact hr8)
          have HP8 := Lib.hid hp8
          clear hp8
          gi_wp2_with (refine wpListIn_load_row rfl 87 _ rfl _ rfl _ _ _ _ HLQ.out Try.underlying87 rfl (by rw [ints_size, HP8.out]; exact info87) ?_)
          refine hR.mono ?_
          rintro e W3 (⟨rfl, hJ3, hk3⟩ | ⟨rfl, hJx3⟩)
          · have HJ3 : Hid (J (upA day (q + 1)) W3) := by rw [upA_succ]; exact hJ3
            have HBM3 := Lib.hid (hk3.m.trans HBMQ.out)
            have HBO3 := Lib.hid (hk3.o.trans HBOQ.out)
            have HL3 := Lib.hid (hk3.own _ _ _ _ hwW HLQ.out)
            have hsz3 : W.heap.size + 1 ≤ W3.heap.size := block_lt HL3.out
            have hp9 : (pad (warmL m false (q + 1))).length = 8 := pad_length (by rw [warmL_length, HR.out, Int.toNat_natCast]; exact hr8)
            have HP9 := Lib.hid hp9
            clear hJ3 hk3 HJQ HBMQ HBOQ HLQ hp9 hy hR
            cases st
            rotate_left
            · gi_wp2_with fail
              go_roundw
              case rel =>
                have e := HST.out (by simp)
                exact ⟨q + 1, true, by omega, by simp, rfl, fun _ => by rw [warmL_succ m false (q + 1), e, ← warmL_succ, e], HJ3.out, HBM3.out, HBO3.out, by rw [e]; exact HL3.out, hsz3⟩
              case measure => simp [intOf]; omega
            gi_wp2_with fail
            refine wpIn_region_inv1 (by kernel_rfl) (by kernel_rfl) [8] (fun D y w' => Below W3.heap.size W3 w' ∧ (D 9 = true → ∃ g, W3.heap.size ≤ g ∧ y 8 = .pointer (some ⟨g, 0, none⟩) ∧ w'.heap[g]? = some (.cells (if D 10 = true then ints (pad (warmL m false (q + 1))) else ints (List.replicate 8 0)) 87))) ?_ ?FX ?hFX ?_
            · exact ⟨(Below.refl _ _).drew, fun h => (by cases h)⟩
            case hFX =>
              intro y
              simp only [fill, List.foldl, Act.put, List.setIfInBounds_toArray, List.set]
              exact rfl
            apply obl_detIn
            case hrun =>
              intro D y wz hW hD R hR
              have HRR := Lib.hid hR
              clear hR
              have HW := Lib.hid hW
              have c0 := fun i => cell_of_row wz bm i _ _ _ (block_keep HBM3.out hW.1)
              have c1 := fun i => cell_of_row wz bo i _ _ _ (block_keep HBO3.out hW.1)
              clear hW hD
              gi_wp2
              exact HRR.out _ HW.out
            case hnp => rfl
            case hv => first | exact ⟨_, fun _ => rfl⟩ | exact ⟨undef, fun _ => rfl⟩
            apply obl_detIn
            case hrun =>
              intro D y wz hW hD R hR
              have HRR := Lib.hid hR
              clear hR
              have HW := Lib.hid hW
              have hLz := block_keep HL3.out hW.1
              clear hW hD
              refine wpListIn_load_row rfl 87 _ rfl _ rfl _ _ _ _ hLz Try.underlying87 rfl (by rw [ints_size, HP8.out]; exact info87) ?_
              clear hLz
              gi_wp2
              exact HRR.out _ HW.out
            case hnp => rfl
            case hv => first | exact ⟨_, fun _ => rfl⟩ | exact ⟨undef, fun _ => rfl⟩
            iterate 5
              (apply obl_detIn
               case hrun =>
                 intro D y wz hW hD R hR
                 have HRR := Lib.hid hR
                 clear hR
                 have HW := Lib.hid hW
                 have c0 := fun i => cell_of_row wz bm i _ _ _ (block_keep HBM3.out hW.1)
                 have c1 := fun i => cell_of_row wz bo i _ _ _ (block_keep HBO3.out hW.1)
                 clear hW hD
                 gi_wp2
                 exact HRR.out _ HW.out
               case hnp => rfl
               case hv => first | exact ⟨_, fun _ => rfl⟩ | exact ⟨undef, fun _ => rfl⟩)
            apply obl_detIn
            case hrun =>
              intro D y wz hW hD R hR
              have HRR := Lib.hid hR
              clear hR
              have HW := Lib.hid hW
              have c0 := fun i => cell_of_row wz bm i _ _ _ (block_keep HBM3.out hW.1)
              have c1 := fun i => cell_of_row wz bo i _ _ _ (block_keep HBO3.out hW.1)
              clear hW hD
              gi_wp2_with fail
              refine ⟨trivial, (callsIn_wide.2 (cold_any m _ _ _)).mono ?_⟩
              rintro e w' ⟨rfl, hbw⟩
              gi_wp2_with fail
              exact HRR.out _ ⟨HW.out.1.trans (hbw.mono HW.out.1.size), fun h => (by obtain ⟨g, h1, h2, h3⟩ := HW.out.2 h; exact ⟨g, h1, h2, block_keep h3 hbw⟩)⟩
            case hnp => rfl
            case hv => first | exact ⟨_, fun _ => rfl⟩ | exact ⟨undef, fun _ => rfl⟩
            apply obl_detIn
            case hrun =>
              intro D y wz hW hD R hR
              have HRR := Lib.hid hR
              clear hR
              have HW := Lib.hid hW
              clear hW hD
              gi_wp2_with fail
              refine ⟨trivial, (callsIn_wide.2 (next_any m HM.out.g1 HM.out.g5 (warmL m false q) (by rw [warmL_length, HR.out, Int.toNat_natCast]) (by rw [warmL_length, HR.out, Int.toNat_natCast]; exact hr1) (by rw [warmL_length, HR.out, Int.toNat_natCast]; exact hr8) (warmL_fits HM.out _ _) m.wl ⟨by have := HM.out.w0; have := HM.out.ww; omega, by have := HM.out.w2; have := HM.out.ww; omega⟩ _)).mono ?_⟩
              rintro e w' ⟨rfl, hbw⟩
              have en : nextL m.give m.wl (warmL m false q) = warmL m false (q + 1) := (warmL_succ m false q).symm
              rw [en]
              clear en
              gi_wp2_with fail
              exact HRR.out _ ⟨HW.out.1.trans (hbw.mono HW.out.1.size), fun h => (by obtain ⟨g, h1, h2, h3⟩ := HW.out.2 h; exact ⟨g, h1, h2, block_keep h3 hbw⟩)⟩
            case hnp => rfl
            case hv => first | exact ⟨_, fun _ => rfl⟩ | exact ⟨undef, fun _ => rfl⟩
            apply obl_privIn 8
            case hd => rfl
            case hp => rfl
            case hrun =>
              intro D y wz hW hD R hR
              have HRR := Lib.hid hR
              clear hR
              have HD10 := Lib.hid (hD.post _ 10 rfl (by kernel_rfl))
              have HW := Lib.hid hW
              clear hW hD
              gi_wp2
              refine HRR.out (.pointer (some ⟨wz.heap.size, 0, none⟩)) _ ⟨HW.out.1.alloc HW.out.1.size _, fun _ => ⟨wz.heap.size, HW.out.1.size, rfl, ?_⟩⟩
              show _ = some (Obj.cells (if D 10 = true then ints (pad (warmL m false (q + 1))) else ints (List.replicate 8 0)) 87)
              rw [HD10.out, if_neg (by simp)]
              exact heap_alloc_new _ _
            apply obl_detIn
            case hrun =>
              intro D y wz hW hD R hR
              have HRR := Lib.hid hR
              clear hR
              have hd10 : D 10 = false := hD.not
              have hd9 : D 9 = true := hD.pre _ 9 rfl (by kernel_rfl)
              obtain ⟨g, hg, hy8, hc⟩ := hW.2 hd9
              rw [hd10, if_neg (by simp)] at hc
              have HW := Lib.hid hW
              clear hW hD
              refine wpListIn_store_row rfl 87 _ _ rfl g (ints (pad (warmL m false (q + 1)))) hy8 rfl 87 _ hc (by rw [ints_size, HP9.out]; exact info87) (by rw [ints_size, ints_size, HP9.out]; rfl) (ints_oneCell _) ?_
              have hcs := setRow_heap _ _ _ (ints (pad (warmL m false (q + 1)))) _ _ hc
              have HCS := Lib.hid hcs
              have HY8 := Lib.hid hy8
              clear hcs hc hy8 hd10 hd9
              gi_wp2
              exact HRR.out _ ⟨below_setRow HW.out.1 hg _, fun _ => ⟨g, hg, HY8.out, HCS.out⟩⟩
            case hnp => rfl
            case hv => first | exact ⟨_, fun _ => rfl⟩ | exact ⟨undef, fun _ => rfl⟩
            apply obl_nilIn
            intro D y w8 hall hW
            have h9 : D 9 = true := hall 9 (by decide)
            have h10 : D 10 = true := hall 10 (by decide)
            obtain ⟨g, hg, hy8, hc⟩ := hW.2 h9
            rw [h10, if_pos rfl] at hc
            have HC8 := Lib.hid hc
            have HB8 := Lib.hid hW.1
            have HL8 := Lib.hid (block_keep HL3.out hW.1)
            rw [hy8]
            clear hW hall h9 h10 hc hy8 D y
            obtain ⟨b, hb⟩ : ∃ b, decide (pad (warmL m false (q + 1)) = pad (warmL m false q)) = b := ⟨_, rfl⟩
            have HBB := Lib.hid hb
            clear hb
            gi_wp2_with fail
            refine wpIn_region_inv0 (by kernel_rfl) (by kernel_rfl) (fun D w' => w'.heap[g]? = some (.cells (ints (pad (warmL m false (q + 1)))) 87) ∧ w'.heap[W.heap.size]? = some (.cells (if D 5 = true then ints (pad (warmL m false (q + 1))) else ints (pad (warmL m false q))) 87) ∧ Below W.heap.size w8 w') ⟨HC8.out, HL8.out, (Below.refl _ _).drew⟩ ?_
            apply obl_detIn
            case hrun =>
              intro D y wz hW hD R hR
              have HRR := Lib.hid hR
              clear hR
              have HW := Lib.hid hW
              clear hW hD
              refine wpListIn_load_row rfl 87 _ rfl _ rfl _ _ _ _ HW.out.1 Try.underlying87 rfl (by rw [ints_size, HP9.out]; exact info87) ?_
              gi_wp2
              exact HRR.out _ HW.out
            case hnp => rfl
            case hv => first | exact ⟨_, fun _ => rfl⟩ | exact ⟨undef, fun _ => rfl⟩
            apply obl_detIn
            case hrun =>
              intro D y wz hW hD R hR
              have HRR := Lib.hid hR
              clear hR
              have hd5 : D 5 = false := hD.post _ 5 rfl (by kernel_rfl)
              have hL5 := hW.2.1
              rw [hd5, if_neg (by simp)] at hL5
              have HL5 := Lib.hid hL5
              clear hL5 hd5
              have HW := Lib.hid hW
              clear hW hD
              refine wpListIn_load_row rfl 87 _ rfl _ rfl _ _ _ _ HL5.out Try.underlying87 rfl (by rw [ints_size, HP8.out]; exact info87) ?_
              gi_wp2
              exact HRR.out _ HW.out
            case hnp => rfl
            case hv => first | exact ⟨_, fun _ => rfl⟩ | exact ⟨undef, fun _ => rfl⟩
            apply obl_detIn
            case hrun =>
              intro D y wz hW hD R hR
              have HRR := Lib.hid hR
              clear hR
              have HW := Lib.hid hW
              clear hW hD
              refine wpListIn_eql_ints rfl _ _ rfl b _ _ HBB.out rfl rfl Try.underlying87 Try.underlying3 info3 (by kernel_rfl) HP9.out HP8.out ?_
              gi_wp2
              exact HRR.out _ HW.out
            case hnp => rfl
            case hv => first | exact ⟨_, fun _ => rfl⟩ | exact ⟨undef, fun _ => rfl⟩
            apply obl_detIn
            case hrun =>
              intro D y wz hW hD R hR
              have HRR := Lib.hid hR
              clear hR
              have HW := Lib.hid hW
              clear hW hD
              refine wpListIn_load_row rfl 87 _ rfl _ rfl _ _ _ _ HW.out.1 Try.underlying87 rfl (by rw [ints_size, HP9.out]; exact info87) ?_
              gi_wp2
              exact HRR.out _ HW.out
            case hnp => rfl
            case hv => first | exact ⟨_, fun _ => rfl⟩ | exact ⟨undef, fun _ => rfl⟩
            apply obl_detIn
            case hrun =>
              intro D y wz hW hD R hR
              have HRR := Lib.hid hR
              clear hR
              have HW := Lib.hid hW
              clear hW hD
              gi_wp2
              exact HRR.out _ HW.out
            case hnp => rfl
            case hv => first | exact ⟨_, fun _ => rfl⟩ | exact ⟨undef, fun _ => rfl⟩
            apply obl_detIn
            case hrun =>
              intro D y wz hW hD R hR
              have HRR := Lib.hid hR
              clear hR
              have hd5 : D 5 = false := hD.not
              have hL5 := hW.2.1
              rw [hd5, if_neg (by simp)] at hL5
              have HL5 := Lib.hid hL5
              clear hL5 hd5
              have HW := Lib.hid hW
              clear hW hD
              refine wpListIn_store_row rfl 87 _ _ rfl W.heap.size (ints (pad (warmL m false (q + 1)))) rfl rfl 87 _ HL5.out (by rw [ints_size, HP9.out]; exact info87) (by rw [ints_size, ints_size, HP9.out, HP8.out]) (ints_oneCell _) ?_
              gi_wp2
              exact HRR.out _ ⟨(setRow_other _ _ _ _ (by omega)).trans HW.out.1, setRow_heap _ _ _ _ _ _ HL5.out, below_setRow HW.out.2.2 (Nat.le_refl _) _⟩
            case hnp => rfl
            case hv => first | exact ⟨_, fun _ => rfl⟩ | exact ⟨undef, fun _ => rfl⟩
            apply obl_nilIn
            intro D y w9 hall hW
            have h5 : D 5 = true := hall 5 (by decide)
            have hL9 := hW.2.1
            rw [h5, if_pos rfl] at hL9
            have HL9 := Lib.hid hL9
            have HB9 := Lib.hid (hW.2.2)
            have HBB9 : Hid (Below W.heap.size W3 w9) := (HB8.out.mono (by omega)).trans HB9.out
            have HJ9 := Lib.hid (HJ.out _ _ _ HJ3.out HBB9.out)
            clear hW hall h5 hL9 D y
            gi_wp2_with fail
            go_roundw
            case rel =>
              refine ⟨q + 1, b, by omega, by simp, rfl, fun hb => ?_, HJ9.out, (HBB9.out.block _ (by omega)).trans HBM3.out, (HBB9.out.block _ (by omega)).trans HBO3.out, HL9.out, Nat.le_trans hsz3 HBB9.out.size⟩
              have e := of_decide_eq_true (HBB.out.trans hb)
              have e2 := pad_inj (by rw [warmL_length, warmL_length]) e
              rw [warmL_succ m false (q + 1), e2, ← warmL_succ]
              exact e2
            case measure => simp [intOf]; omega
          · gi_wp2_with fail
            refine bodyPost_ret (results_none rfl _ _ _) rfl ?_
            exact ⟨⟨_, rfl⟩, .inr ⟨_, ⟨q + 1, by omega, rfl⟩, by rw [upA_succ]; exact hJx3⟩⟩
        · obtain rfl : q = 601 := by omega
          gi_wp2_with fail
          go_end0
          exact ⟨⟨_, rfl⟩, .inl ⟨_, rfl, HJQ.out⟩⟩
set_option maxRecDepth 100000 in
set_option maxHeartbeats 8000000 in
theorem minutes1_hot {α : Type} (encs : α → Array Value) (day : Nat → α) (m : Mou) (hm : Valid m) (n : Nat) (hn : 1 ≤ n) (bm bo : Nat) (w : World) (hen : ∀ k, k < 601 → encs (day k) = #[.int .i64 k, .agg (ints (pad (warmL m true k)))])
    (hbm : w.heap[bm]? = some (.cells #[.int .i64 m.rings, .int .i64 m.give, .int .i64 m.pl, .int .i64 m.ph, .int .i64 m.wl, .int .i64 m.wh, .int .i64 m.set, .int .i64 m.shrink, .int .i64 m.skin, .int .i64 m.fill, .int .i64 m.gap, .int .i64 m.deep] 85)) (hbo : w.heap[bo]? = some (.cells #[.func (.func 56) #[] #[]] 96)) :
    IterGives Fence.wide n Try.prog 69 #[.pointer (some ⟨bm, 0, none⟩), .pointer (some ⟨bo, 0, none⟩)] encs (MiK w.heap.size bm bo) (fun xs => xs = upA day 601) (fun pre => ∃ k, k ≤ 601 ∧ pre = upA day k) 601 w := by
  intro l J Jx W hWb hJ hJx hY h0
  have HEN := Lib.hid hen
  have HY := Lib.hid hY
  have HJ := Lib.hid hJ
  have HM := Lib.hid hm
  have hbmW := block_keep hbm hWb
  have hboW := block_keep hbo hWb
  have hbml := block_lt hbm
  have hbol := block_lt hbo
  have hwW := hWb.size
  obtain ⟨r, hr⟩ : ∃ r : Nat, m.rings = r := ⟨m.rings.toNat, by have := hm.r1; omega⟩
  have hr1 : 1 ≤ r := by have := hm.r1; omega
  have hr8 : r ≤ 8 := by have := hm.r8; omega
  have HR := Lib.hid hr
  have HBM := Lib.hid hbmW
  have HBO := Lib.hid hboW
  clear hen hY hJ hJx hbm hbo hbmW hboW hWb hm hr
  refine callsIn_of_wp Try.func69 rfl trivial ?_ rfl
  simp only [Try.ntmps69, List.size_toArray, List.length_cons, List.length_nil, Nat.reduceAdd, Nat.reduceSub, Array.replicate_succ, Array.replicate_zero, List.push_toArray, List.append_toArray, List.nil_append, List.cons_append]
  have hbmW : bm < W.heap.size := by omega
  have hboW : bo < W.heap.size := by omega
  have c0 := fun i => cell_of_row W bm i _ _ _ HBM.out
  have C0 := Lib.hid ((Bs.nil W).push _ rfl (.cells (ints (fill8 m.ph 0)) 87))
  gi_wp2
  gi_loopw [12] (fun i wr => ∃ k : Nat, k ≤ r ∧ i = .int .i64 k ∧ Bs W [(W.heap.size, .cells (ints (fill8 m.ph k)) 87)] wr) (fun i _ => r - (intOf i).toNat)
  case atStart => exact ⟨0, by omega, rfl, C0.out⟩
  case round =>
    obtain ⟨k, hk, rfl, hC⟩ := hrel
    have C3 := Lib.hid hC
    clear c0
    have c0 := fun i => cell_of_row wr bm i _ _ _ (block_keep HBM.out hC.bel)
    have c1 := fun i => cell_of_row wr bo i _ _ _ (block_keep HBO.out hC.bel)
    clear hC
    by_cases hlt : k < r
    · have hd : decide ((k : Int) < m.rings) = true := decide_eq_true (by have := HR.out; omega)
      have hk8 : (k : Int) < 8 := by omega
      have HLT := Lib.hid hlt
      gi_wp2_with fail
      refine ⟨trivial, (callsIn_wide.2 (hot_any m _ _ _)).mono ?_⟩
      rintro e w' ⟨rfl, hbw⟩
      have C4 := Lib.hid (C3.out.call hbw)
      clear hbw C3 c0 c1
      gi_wp2_with (refine wpListIn_cell_bs rfl 3 _ _ rfl C4.out 0 _ k _ _ rfl rfl (.int .i64 m.ph) rfl (by rw [ints_size, fill8_len (by omega)]; omega) rfl info3 ?_; intro w2 hC2)
      have C5 : Hid (Bs W [(W.heap.size, .cells (ints (fill8 m.ph (k + 1))) 87)] w2) := by
        rw [ints_set, fill8_succ (by have := HLT.out; omega)] at hC2
        exact hC2
      clear C4 hC2
      gi_wp2_with fail
      go_roundw
      case rel => exact ⟨k + 1, HLT.out, by simp, C5.out⟩
      case measure => have := HLT.out; simp [intOf]; omega
    · obtain rfl : k = r := by omega
      have hd : decide ((k : Int) < m.rings) = false := decide_eq_false (by have := HR.out; omega)
      have hJ0 : Hid (J [] wr) := HJ.out [] W wr h0 C3.out.bel
      have hbmr : Hid (wr.heap[bm]? = some (.cells #[.int .i64 m.rings, .int .i64 m.give, .int .i64 m.pl, .int .i64 m.ph, .int .i64 m.wl, .int .i64 m.wh, .int .i64 m.set, .int .i64 m.shrink, .int .i64 m.skin, .int .i64 m.fill, .int .i64 m.gap, .int .i64 m.deep] 85)) := block_keep HBM.out C3.out.bel
      have hbor : Hid (wr.heap[bo]? = some (.cells #[.func (.func 56) #[] #[]] 96)) := block_keep HBO.out C3.out.bel
      have hLr : Hid (wr.heap[W.heap.size]? = some (.cells (ints (pad (warmL m true 0))) 87)) := by
        have := C3.out.get 0 rfl
        rw [fill8_pad] at this
        rw [warmL_zero, HR.out, Int.toNat_natCast]
        exact this
      have hszr : W.heap.size + 1 ≤ wr.heap.size := block_lt (C3.out.get 0 rfl)
      clear C3 c0 c1 hk hlt
      gi_wp2_with fail
      gi_loopw [6, 24] (fun st i wr => ∃ (k : Nat) (b : Bool), k ≤ 601 ∧ i = .int .i64 k ∧ st = .bool b ∧ (b = true → warmL m true (k + 1) = warmL m true k) ∧ J (upA day k) wr ∧ wr.heap[bm]? = some (.cells #[.int .i64 m.rings, .int .i64 m.give, .int .i64 m.pl, .int .i64 m.ph, .int .i64 m.wl, .int .i64 m.wh, .int .i64 m.set, .int .i64 m.shrink, .int .i64 m.skin, .int .i64 m.fill, .int .i64 m.gap, .int .i64 m.deep] 85) ∧ wr.heap[bo]? = some (.cells #[.func (.func 56) #[] #[]] 96) ∧
          wr.heap[W.heap.size]? = some (.cells (ints (pad (warmL m true k))) 87) ∧ W.heap.size + 1 ≤ wr.heap.size) (fun _ i _ => 601 - (intOf i).toNat)
      case atStart => exact ⟨0, false, by omega, rfl, rfl, by simp, hJ0.out, hbmr.out, hbor.out, hLr.out, hszr⟩
      case round =>
        obtain ⟨q, st, hq, rfl, rfl, hst, hJq, hbmq, hboq, hLq, hszq⟩ := hrel
        have HJQ := Lib.hid hJq
        have HBMQ := Lib.hid hbmq
        have HBOQ := Lib.hid hboq
        have HLQ := Lib.hid hLq
        have HST := Lib.hid hst
        clear hJq hbmq hboq hLq hst hJ0 hbmr hbor hLr
        by_cases hlt : q < 601
        · have hd2 : decide ((q : Int) < 601) = true := decide_eq_true (by omega)
          have hyx := HY.out _ (day q) _ HJQ.out (by rw [upA_length]; exact hlt) (by omega)
          rw [HEN.out q hlt] at hyx
          obtain ⟨fn, tmps, assign, body, hy, hR⟩ := hyx
          have hp8 : (pad (warmL m true q)).length = 8 := pad_length (by rw [warmL_length, HR.out, Int.toNat_natCast]; exact hr8)
          have HP8 := Lib.hid hp8
          clear hp8
          gi_wp2_with (refine wpListIn_load_row rfl 87 _ rfl _ rfl _ _ _ _ HLQ.out Try.underlying87 rfl (by rw [ints_size, HP8.out]; exact info87) ?_)
          refine hR.mono ?_
          rintro e W3 (⟨rfl, hJ3, hk3⟩ | ⟨rfl, hJx3⟩)
          · have HJ3 : Hid (J (upA day (q + 1)) W3) := by rw [upA_succ]; exact hJ3
            have HBM3 := Lib.hid (hk3.m.trans HBMQ.out)
            have HBO3 := Lib.hid (hk3.o.trans HBOQ.out)
            have HL3 := Lib.hid (hk3.own _ _ _ _ hwW HLQ.out)
            have hsz3 : W.heap.size + 1 ≤ W3.heap.size := block_lt HL3.out
            have hp9 : (pad (warmL m true (q + 1))).length = 8 := pad_length (by rw [warmL_length, HR.out, Int.toNat_natCast]; exact hr8)
            have HP9 := Lib.hid hp9
            clear hJ3 hk3 HJQ HBMQ HBOQ HLQ hp9 hy hR
            cases st
            rotate_left
            · gi_wp2_with fail
              go_roundw
              case rel =>
                have e := HST.out (by simp)
                exact ⟨q + 1, true, by omega, by simp, rfl, fun _ => by rw [warmL_succ m true (q + 1), e, ← warmL_succ, e], HJ3.out, HBM3.out, HBO3.out, by rw [e]; exact HL3.out, hsz3⟩
              case measure => simp [intOf]; omega
            gi_wp2_with fail
            refine wpIn_region_inv1 (by kernel_rfl) (by kernel_rfl) [8] (fun D y w' => Below W3.heap.size W3 w' ∧ (D 9 = true → ∃ g, W3.heap.size ≤ g ∧ y 8 = .pointer (some ⟨g, 0, none⟩) ∧ w'.heap[g]? = some (.cells (if D 10 = true then ints (pad (warmL m true (q + 1))) else ints (List.replicate 8 0)) 87))) ?_ ?FX ?hFX ?_
            · exact ⟨(Below.refl _ _).drew, fun h => (by cases h)⟩
            case hFX =>
              intro y
              simp only [fill, List.foldl, Act.put, List.setIfInBounds_toArray, List.set]
              exact rfl
            apply obl_detIn
            case hrun =>
              intro D y wz hW hD R hR
              have HRR := Lib.hid hR
              clear hR
              have HW := Lib.hid hW
              have c0 := fun i => cell_of_row wz bm i _ _ _ (block_keep HBM3.out hW.1)
              have c1 := fun i => cell_of_row wz bo i _ _ _ (block_keep HBO3.out hW.1)
              clear hW hD
              gi_wp2
              exact HRR.out _ HW.out
            case hnp => rfl
            case hv => first | exact ⟨_, fun _ => rfl⟩ | exact ⟨undef, fun _ => rfl⟩
            apply obl_detIn
            case hrun =>
              intro D y wz hW hD R hR
              have HRR := Lib.hid hR
              clear hR
              have HW := Lib.hid hW
              have hLz := block_keep HL3.out hW.1
              clear hW hD
              refine wpListIn_load_row rfl 87 _ rfl _ rfl _ _ _ _ hLz Try.underlying87 rfl (by rw [ints_size, HP8.out]; exact info87) ?_
              clear hLz
              gi_wp2
              exact HRR.out _ HW.out
            case hnp => rfl
            case hv => first | exact ⟨_, fun _ => rfl⟩ | exact ⟨undef, fun _ => rfl⟩
            iterate 5
              (apply obl_detIn
               case hrun =>
                 intro D y wz hW hD R hR
                 have HRR := Lib.hid hR
                 clear hR
                 have HW := Lib.hid hW
                 have c0 := fun i => cell_of_row wz bm i _ _ _ (block_keep HBM3.out hW.1)
                 have c1 := fun i => cell_of_row wz bo i _ _ _ (block_keep HBO3.out hW.1)
                 clear hW hD
                 gi_wp2
                 exact HRR.out _ HW.out
               case hnp => rfl
               case hv => first | exact ⟨_, fun _ => rfl⟩ | exact ⟨undef, fun _ => rfl⟩)
            apply obl_detIn
            case hrun =>
              intro D y wz hW hD R hR
              have HRR := Lib.hid hR
              clear hR
              have HW := Lib.hid hW
              have c0 := fun i => cell_of_row wz bm i _ _ _ (block_keep HBM3.out hW.1)
              have c1 := fun i => cell_of_row wz bo i _ _ _ (block_keep HBO3.out hW.1)
              clear hW hD
              gi_wp2_with fail
              refine ⟨trivial, (callsIn_wide.2 (hot_any m _ _ _)).mono ?_⟩
              rintro e w' ⟨rfl, hbw⟩
              gi_wp2_with fail
              exact HRR.out _ ⟨HW.out.1.trans (hbw.mono HW.out.1.size), fun h => (by obtain ⟨g, h1, h2, h3⟩ := HW.out.2 h; exact ⟨g, h1, h2, block_keep h3 hbw⟩)⟩
            case hnp => rfl
            case hv => first | exact ⟨_, fun _ => rfl⟩ | exact ⟨undef, fun _ => rfl⟩
            apply obl_detIn
            case hrun =>
              intro D y wz hW hD R hR
              have HRR := Lib.hid hR
              clear hR
              have HW := Lib.hid hW
              clear hW hD
              gi_wp2_with fail
              refine ⟨trivial, (callsIn_wide.2 (next_any m HM.out.g1 HM.out.g5 (warmL m true q) (by rw [warmL_length, HR.out, Int.toNat_natCast]) (by rw [warmL_length, HR.out, Int.toNat_natCast]; exact hr1) (by rw [warmL_length, HR.out, Int.toNat_natCast]; exact hr8) (warmL_fits HM.out _ _) m.wh ⟨by have := HM.out.w0; have := HM.out.ww; omega, by have := HM.out.w2; have := HM.out.ww; omega⟩ _)).mono ?_⟩
              rintro e w' ⟨rfl, hbw⟩
              have en : nextL m.give m.wh (warmL m true q) = warmL m true (q + 1) := (warmL_succ m true q).symm
              rw [en]
              clear en
              gi_wp2_with fail
              exact HRR.out _ ⟨HW.out.1.trans (hbw.mono HW.out.1.size), fun h => (by obtain ⟨g, h1, h2, h3⟩ := HW.out.2 h; exact ⟨g, h1, h2, block_keep h3 hbw⟩)⟩
            case hnp => rfl
            case hv => first | exact ⟨_, fun _ => rfl⟩ | exact ⟨undef, fun _ => rfl⟩
            apply obl_privIn 8
            case hd => rfl
            case hp => rfl
            case hrun =>
              intro D y wz hW hD R hR
              have HRR := Lib.hid hR
              clear hR
              have HD10 := Lib.hid (hD.post _ 10 rfl (by kernel_rfl))
              have HW := Lib.hid hW
              clear hW hD
              gi_wp2
              refine HRR.out (.pointer (some ⟨wz.heap.size, 0, none⟩)) _ ⟨HW.out.1.alloc HW.out.1.size _, fun _ => ⟨wz.heap.size, HW.out.1.size, rfl, ?_⟩⟩
              show _ = some (Obj.cells (if D 10 = true then ints (pad (warmL m true (q + 1))) else ints (List.replicate 8 0)) 87)
              rw [HD10.out, if_neg (by simp)]
              exact heap_alloc_new _ _
            apply obl_detIn
            case hrun =>
              intro D y wz hW hD R hR
              have HRR := Lib.hid hR
              clear hR
              have hd10 : D 10 = false := hD.not
              have hd9 : D 9 = true := hD.pre _ 9 rfl (by kernel_rfl)
              obtain ⟨g, hg, hy8, hc⟩ := hW.2 hd9
              rw [hd10, if_neg (by simp)] at hc
              have HW := Lib.hid hW
              clear hW hD
              refine wpListIn_store_row rfl 87 _ _ rfl g (ints (pad (warmL m true (q + 1)))) hy8 rfl 87 _ hc (by rw [ints_size, HP9.out]; exact info87) (by rw [ints_size, ints_size, HP9.out]; rfl) (ints_oneCell _) ?_
              have hcs := setRow_heap _ _ _ (ints (pad (warmL m true (q + 1)))) _ _ hc
              have HCS := Lib.hid hcs
              have HY8 := Lib.hid hy8
              clear hcs hc hy8 hd10 hd9
              gi_wp2
              exact HRR.out _ ⟨below_setRow HW.out.1 hg _, fun _ => ⟨g, hg, HY8.out, HCS.out⟩⟩
            case hnp => rfl
            case hv => first | exact ⟨_, fun _ => rfl⟩ | exact ⟨undef, fun _ => rfl⟩
            apply obl_nilIn
            intro D y w8 hall hW
            have h9 : D 9 = true := hall 9 (by decide)
            have h10 : D 10 = true := hall 10 (by decide)
            obtain ⟨g, hg, hy8, hc⟩ := hW.2 h9
            rw [h10, if_pos rfl] at hc
            have HC8 := Lib.hid hc
            have HB8 := Lib.hid hW.1
            have HL8 := Lib.hid (block_keep HL3.out hW.1)
            rw [hy8]
            clear hW hall h9 h10 hc hy8 D y
            obtain ⟨b, hb⟩ : ∃ b, decide (pad (warmL m true (q + 1)) = pad (warmL m true q)) = b := ⟨_, rfl⟩
            have HBB := Lib.hid hb
            clear hb
            gi_wp2_with fail
            refine wpIn_region_inv0 (by kernel_rfl) (by kernel_rfl) (fun D w' => w'.heap[g]? = some (.cells (ints (pad (warmL m true (q + 1)))) 87) ∧ w'.heap[W.heap.size]? = some (.cells (if D 5 = true then ints (pad (warmL m true (q + 1))) else ints (pad (warmL m true q))) 87) ∧ Below W.heap.size w8 w') ⟨HC8.out, HL8.out, (Below.refl _ _).drew⟩ ?_
            apply obl_detIn
            case hrun =>
              intro D y wz hW hD R hR
              have HRR := Lib.hid hR
              clear hR
              have HW := Lib.hid hW
              clear hW hD
              refine wpListIn_load_row rfl 87 _ rfl _ rfl _ _ _ _ HW.out.1 Try.underlying87 rfl (by rw [ints_size, HP9.out]; exact info87) ?_
              gi_wp2
              exact HRR.out _ HW.out
            case hnp => rfl
            case hv => first | exact ⟨_, fun _ => rfl⟩ | exact ⟨undef, fun _ => rfl⟩
            apply obl_detIn
            case hrun =>
              intro D y wz hW hD R hR
              have HRR := Lib.hid hR
              clear hR
              have hd5 : D 5 = false := hD.post _ 5 rfl (by kernel_rfl)
              have hL5 := hW.2.1
              rw [hd5, if_neg (by simp)] at hL5
              have HL5 := Lib.hid hL5
              clear hL5 hd5
              have HW := Lib.hid hW
              clear hW hD
              refine wpListIn_load_row rfl 87 _ rfl _ rfl _ _ _ _ HL5.out Try.underlying87 rfl (by rw [ints_size, HP8.out]; exact info87) ?_
              gi_wp2
              exact HRR.out _ HW.out
            case hnp => rfl
            case hv => first | exact ⟨_, fun _ => rfl⟩ | exact ⟨undef, fun _ => rfl⟩
            apply obl_detIn
            case hrun =>
              intro D y wz hW hD R hR
              have HRR := Lib.hid hR
              clear hR
              have HW := Lib.hid hW
              clear hW hD
              refine wpListIn_eql_ints rfl _ _ rfl b _ _ HBB.out rfl rfl Try.underlying87 Try.underlying3 info3 (by kernel_rfl) HP9.out HP8.out ?_
              gi_wp2
              exact HRR.out _ HW.out
            case hnp => rfl
            case hv => first | exact ⟨_, fun _ => rfl⟩ | exact ⟨undef, fun _ => rfl⟩
            apply obl_detIn
            case hrun =>
              intro D y wz hW hD R hR
              have HRR := Lib.hid hR
              clear hR
              have HW := Lib.hid hW
              clear hW hD
              refine wpListIn_load_row rfl 87 _ rfl _ rfl _ _ _ _ HW.out.1 Try.underlying87 rfl (by rw [ints_size, HP9.out]; exact info87) ?_
              gi_wp2
              exact HRR.out _ HW.out
            case hnp => rfl
            case hv => first | exact ⟨_, fun _ => rfl⟩ | exact ⟨undef, fun _ => rfl⟩
            apply obl_detIn
            case hrun =>
              intro D y wz hW hD R hR
              have HRR := Lib.hid hR
              clear hR
              have HW := Lib.hid hW
              clear hW hD
              gi_wp2
              exact HRR.out _ HW.out
            case hnp => rfl
            case hv => first | exact ⟨_, fun _ => rfl⟩ | exact ⟨undef, fun _ => rfl⟩
            apply obl_detIn
            case hrun =>
              intro D y wz hW hD R hR
              have HRR := Lib.hid hR
              clear hR
              have hd5 : D 5 = false := hD.not
              have hL5 := hW.2.1
              rw [hd5, if_neg (by simp)] at hL5
              have HL5 := Lib.hid hL5
              clear hL5 hd5
              have HW := Lib.hid hW
              clear hW hD
              refine wpListIn_store_row rfl 87 _ _ rfl W.heap.size (ints (pad (warmL m true (q + 1)))) rfl rfl 87 _ HL5.out (by rw [ints_size, HP9.out]; exact info87) (by rw [ints_size, ints_size, HP9.out, HP8.out]) (ints_oneCell _) ?_
              gi_wp2
              exact HRR.out _ ⟨(setRow_other _ _ _ _ (by omega)).trans HW.out.1, setRow_heap _ _ _ _ _ _ HL5.out, below_setRow HW.out.2.2 (Nat.le_refl _) _⟩
            case hnp => rfl
            case hv => first | exact ⟨_, fun _ => rfl⟩ | exact ⟨undef, fun _ => rfl⟩
            apply obl_nilIn
            intro D y w9 hall hW
            have h5 : D 5 = true := hall 5 (by decide)
            have hL9 := hW.2.1
            rw [h5, if_pos rfl] at hL9
            have HL9 := Lib.hid hL9
            have HB9 := Lib.hid (hW.2.2)
            have HBB9 : Hid (Below W.heap.size W3 w9) := (HB8.out.mono (by omega)).trans HB9.out
            have HJ9 := Lib.hid (HJ.out _ _ _ HJ3.out HBB9.out)
            clear hW hall h5 hL9 D y
            gi_wp2_with fail
            go_roundw
            case rel =>
              refine ⟨q + 1, b, by omega, by simp, rfl, fun hb => ?_, HJ9.out, (HBB9.out.block _ (by omega)).trans HBM3.out, (HBB9.out.block _ (by omega)).trans HBO3.out, HL9.out, Nat.le_trans hsz3 HBB9.out.size⟩
              have e := of_decide_eq_true (HBB.out.trans hb)
              have e2 := pad_inj (by rw [warmL_length, warmL_length]) e
              rw [warmL_succ m true (q + 1), e2, ← warmL_succ]
              exact e2
            case measure => simp [intOf]; omega
          · gi_wp2_with fail
            refine bodyPost_ret (results_none rfl _ _ _) rfl ?_
            exact ⟨⟨_, rfl⟩, .inr ⟨_, ⟨q + 1, by omega, rfl⟩, by rw [upA_succ]; exact hJx3⟩⟩
        · obtain rfl : q = 601 := by omega
          gi_wp2_with fail
          go_end0
          exact ⟨⟨_, rfl⟩, .inl ⟨_, rfl, HJQ.out⟩⟩
end Go.Proofs.Ytafdagjdpnaddaa
